/- Contracts of the reference's large, deep, fits, Bare. Condition: at most 2^22 nodes. -/
import Derived.Test.YteejjkfmmhegmaaGreatDoorMs
namespace Go.Proofs.YteejjkfmmhegmaaGreatDoor
open Go.RowKit

theorem ndSizes_append : ∀ a b : List Nd, ndSizes (a ++ b) = ndSizes a + ndSizes b
  | [], b => by rw [List.nil_append, ndSizes, Nat.zero_add]
  | x :: a, b => by rw [List.cons_append, ndSizes, ndSizes, ndSizes_append a b]; omega
theorem ndDeeps_append : ∀ a b : List Nd, ndDeeps (a ++ b) = max (ndDeeps a) (ndDeeps b)
  | [], b => by rw [List.nil_append, ndDeeps]; omega
  | x :: a, b => by rw [List.cons_append, ndDeeps, ndDeeps, ndDeeps_append a b]; omega
theorem sizes_take {ks : List Nd} {k : Nat} (h : k < ks.length) : ndSizes (ks.take (k + 1)) = ndSizes (ks.take k) + ndSize ks[k] := by
  rw [List.take_succ_eq_append_getElem h, ndSizes_append, ndSizes, ndSizes]
  omega
theorem deeps_take {ks : List Nd} {k : Nat} (h : k < ks.length) : ndDeeps (ks.take (k + 1)) = max (ndDeeps (ks.take k)) (ndDeep ks[k]) := by
  rw [List.take_succ_eq_append_getElem h, ndDeeps_append, ndDeeps, ndDeeps]
  omega
theorem sizes_take_le (ks : List Nd) (k : Nat) : ndSizes (ks.take k) ≤ ndSizes ks := by
  have := ndSizes_append (ks.take k) (ks.drop k)
  rw [List.take_append_drop] at this
  omega
set_option maxRecDepth 20000 in
set_option maxHeartbeats 2000000 in
theorem large_any (n : Nd) : ∀ (m : Nat) (v : Value) (w : World) (L B : Nat), NdV w L B n v → B ≤ w.heap.size → m + ndSize n ≤ 4194304 →
    Calls Tryz.prog 32 #[v, .int .i64 m] w fun e w' => e = .returned (.int .i64 ((m + ndSize n : Nat) : Int)) ∧ Below w.heap.size w w' := by
  induction n using Nd.ind with
  | h n ih =>
    intro m v w L B hv hB hsz
    obtain ⟨b, cap, rfl, hcap, hrow⟩ := hv
    unfold ndCells
    have HKC := Lib.hid (kid_count n)
    have hkc : n.kids.length < 5000000 := by have := kid_count n; omega
    have HSZ := Lib.hid hsz
    have HIH := Lib.hid (fun (W : World) (j : Nat) (hj : j < n.kids.length) (m : Nat) (u : Value) (hu : NdV W L B n.kids[j] u) (hW : B ≤ W.heap.size) (hm : m + ndSize n.kids[j] ≤ 4194304) => ih _ (List.getElem_mem hj) m u W L B hu hW hm)
    have HST := Lib.hid (NSt.new (cap := cap) hrow hB)
    have hwr : wrap64 ((m : Int) + 1) = ((m + 1 : Nat) : Int) := by rw [IntWalk.wrap64_in _ (by omega)]; rfl
    have HWR := Lib.hid hwr
    clear hrow ih hsz hwr
    go_enter Tryz.func32, Tryz.ntmps32
    go_upto_region 2 with fail
    generalize World.alloc w _ = w1 at *
    generalize hp : w.heap.size = p at HST
    have HP := Lib.hid hp
    clear hp
    go_wp2_with fail
    go_loopw [1, 5] (fun v1 i wr => ∃ k : Nat, k ≤ n.kids.length ∧ i = .int .i64 k ∧ v1 = .int .i64 ((m + 1 + ndSizes (n.kids.take k) : Nat) : Int) ∧ NSt w p L B n b cap wr) (fun _ i _ => n.kids.length - (intOf i).toNat)
    case atStart => exact ⟨0, Nat.zero_le _, rfl, by rw [List.take_zero, ndSizes, HWR.out, Nat.add_zero], HST.out⟩
    case round =>
      clear HST
      obtain ⟨k, hk, rfl, rfl, hst⟩ := hrel
      have HST := Lib.hid hst
      obtain ⟨d0, d1, d2, d3, d4, g0, g1, g2, g3, g4⟩ := NdBox.facts hst.box
      have hz := ndSize_eq n
      have hle := sizes_take_le n.kids k
      have hsz := HSZ.out
      by_cases hlt : k < n.kids.length
      · obtain ⟨g, off, b', cap', rfl, hgB, c0, c1, c2, c3, c4, hkv⟩ := RowP_cells hst.row k hlt
        have hst2 := sizes_take hlt
        have hle2 := sizes_take_le n.kids (k + 1)
        have htt : decide (((m + 1 + ndSizes (n.kids.take k) : Nat) : Int) ≤ 4194304) = true := by rw [decide_eq_true_eq]; omega
        have hcall := HIH.out wr k hlt (m + 1 + ndSizes (n.kids.take k)) _ hkv (Nat.le_trans hst.hB hst.bel.size) (by omega)
        have HS2 := Lib.hid hst2
        generalize n.kids[k] = x at *
        generalize hq : m + 1 + ndSizes (n.kids.take k) = q at *
        have HQ := Lib.hid hq
        have HCALL := Lib.hid hcall
        clear hst hkv hcall hst2 hle hle2 hz hsz hq
        go_wp2_with fail
        refine HCALL.out.mono ?_
        rintro e w2 ⟨rfl, hb2⟩
        go_wp2_with fail
        go_roundw
        case rel => exact ⟨k + 1, hlt, by go_num, by rw [HS2.out, ← Nat.add_assoc, HQ.out]; rfl, HST.out.bel' hb2⟩
        case measure => simp [intOf]; omega
      · obtain rfl : k = n.kids.length := by omega
        clear hle hz hsz hst
        go_wp2_with fail
        go_ret
        exact ⟨by rw [List.take_length, ndSize_eq n, Nat.add_assoc]; rfl, HST.out.bel⟩
set_option maxRecDepth 20000 in
set_option maxHeartbeats 2000000 in
theorem deep_any (n : Nd) : ∀ (v : Value) (w : World) (L B : Nat), NdV w L B n v → B ≤ w.heap.size → ndSize n ≤ 4194304 →
    Calls Tryz.prog 33 #[v] w fun e w' => e = .returned (.int .i64 ((ndDeep n : Nat) : Int)) ∧ Below w.heap.size w w' := by
  induction n using Nd.ind with
  | h n ih =>
    intro v w L B hv hB hsz
    obtain ⟨b, cap, rfl, hcap, hrow⟩ := hv
    unfold ndCells
    have HDL := Lib.hid (fun x (_ : x ∈ n.kids) => deep_le x)
    have hkc : n.kids.length < 5000000 := by have := kid_count n; omega
    have HSZ := Lib.hid hsz
    have HIH := Lib.hid (fun (W : World) (j : Nat) (hj : j < n.kids.length) (u : Value) (hu : NdV W L B n.kids[j] u) (hW : B ≤ W.heap.size) => ih _ (List.getElem_mem hj) u W L B hu hW (by have := kid_size hj; omega))
    have HST := Lib.hid (NSt.new (cap := cap) hrow hB)
    clear hrow ih hsz
    go_enter Tryz.func33, Tryz.ntmps33
    go_upto_region 2 with fail
    generalize World.alloc w _ = w1 at *
    generalize hp : w.heap.size = p at HST
    have HP := Lib.hid hp
    clear hp
    go_wp2_with fail
    go_loopw [3, 4] (fun v1 i wr => ∃ k : Nat, k ≤ n.kids.length ∧ i = .int .i64 k ∧ v1 = .int .i64 ((ndDeeps (n.kids.take k) : Nat) : Int) ∧ NSt w p L B n b cap wr) (fun _ i _ => n.kids.length - (intOf i).toNat)
    case atStart => exact ⟨0, Nat.zero_le _, rfl, by rw [List.take_zero, ndDeeps]; rfl, HST.out⟩
    case round =>
      clear HST
      obtain ⟨k, hk, rfl, rfl, hst⟩ := hrel
      have HST := Lib.hid hst
      obtain ⟨d0, d1, d2, d3, d4, g0, g1, g2, g3, g4⟩ := NdBox.facts hst.box
      by_cases hlt : k < n.kids.length
      · obtain ⟨g, off, b', cap', rfl, hgB, c0, c1, c2, c3, c4, hkv⟩ := RowP_cells hst.row k hlt
        have HS2 := Lib.hid (deeps_take hlt)
        have hcall := HIH.out wr k hlt _ hkv (Nat.le_trans hst.hB hst.bel.size)
        generalize n.kids[k] = x at *
        generalize hq : ndDeeps (n.kids.take k) = q at *
        generalize hy : ndDeep x = y at *
        have HCALL := Lib.hid hcall
        clear hst hkv hcall hq hy
        go_wp2_with fail
        refine HCALL.out.mono ?_
        rintro e w2 ⟨rfl, hb2⟩
        go_wp2_with fail
        go_roundw
        case rel => exact ⟨k + 1, hlt, by go_num, by rw [HS2.out]; congr 1; omega, HST.out.bel' hb2⟩
        case measure => simp [intOf]; omega
      · obtain rfl : k = n.kids.length := by omega
        have hdl : ndDeeps n.kids ≤ 5000000 := by have := deeps_le n.kids HDL.out; have := HSZ.out; have := ndSize_eq n; omega
        rw [List.take_length]
        generalize hq : ndDeeps n.kids = q at *
        have HQ := Lib.hid hq
        clear hst hq
        go_wp2_with fail
        go_ret
        exact ⟨by rw [ndDeep_eq n, HQ.out, Nat.add_comm]; rfl, HST.out.bel⟩
end Go.Proofs.YteejjkfmmhegmaaGreatDoor
