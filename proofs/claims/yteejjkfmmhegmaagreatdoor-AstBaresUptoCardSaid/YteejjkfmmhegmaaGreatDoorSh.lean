/- Contracts of ShallowNode, CopyNode's kin that only read: shallowNode, Same (the program's and the reference's), SameNode. Condition: at most 2^22 nodes. -/
import Derived.Test.YteejjkfmmhegmaaGreatDoorNd
import Derived.Deep.QuietTactic
import Derived.BigQuiet
namespace Go.Proofs.YteejjkfmmhegmaaGreatDoor
open Go.RowKit

/-- a kid's cells, and what it leads to. -/
theorem RowP_cells {w : World} {L B : Nat} {a : Option Addr} {ks : List Nd} (h : RowP w L B ks a 0) (j : Nat) (hj : j < ks.length) :
    ∃ g off b cap, a = some ⟨g, off, none⟩ ∧ g < B ∧ w.cell? ⟨g, off + j * 5, none⟩ = some (.int .i64 ks[j].kind) ∧ w.cell? ⟨g, off + j * 5 + 1, none⟩ = some (.string ks[j].text) ∧
      w.cell? ⟨g, off + j * 5 + 2, none⟩ = some (.slice b ks[j].kids.length cap) ∧ w.cell? ⟨g, off + j * 5 + 3, none⟩ = some (.int .i64 ks[j].from') ∧ w.cell? ⟨g, off + j * 5 + 4, none⟩ = some (.int .i64 ks[j].till) ∧
      NdV w L B ks[j] (.agg #[.int .i64 ks[j].kind, .string ks[j].text, .slice b ks[j].kids.length cap, .int .i64 ks[j].from', .int .i64 ks[j].till]) := by
  obtain ⟨g, off, ha, hn⟩ := RowP_get h j hj
  rw [Nat.zero_add, NdC_eq] at hn
  obtain ⟨b, cap, _, h3, c0, c1, c2, c3, c4, hc, hr⟩ := hn
  exact ⟨g, off, b, cap, ha, h3, c0, c1, c2, c3, c4, b, cap, rfl, hc, hr⟩
theorem kid_size {n : Nd} {j : Nat} (h : j < n.kids.length) : ndSize n.kids[j] < ndSize n := by
  have := ndSizes_mem (List.getElem_mem h)
  rw [ndSize_eq n]
  omega
theorem kid_count (n : Nd) : n.kids.length < ndSize n := by
  have := kids_len n.kids
  rw [ndSize_eq n]
  omega
theorem all_get {p : Nd → Bool} {ks : List Nd} (h : ∀ j, (hj : j < ks.length) → p ks[j] = true) : ks.all p = true := by
  rw [List.all_eq_true]
  intro x hx
  obtain ⟨j, hj, rfl⟩ := List.getElem_of_mem hx
  exact h j hj
theorem all_not {p : Nd → Bool} {ks : List Nd} {j : Nat} (hj : j < ks.length) (h : p ks[j] = false) : ks.all p = false := by
  rw [Bool.eq_false_iff]
  intro h2
  rw [List.all_eq_true] at h2
  rw [h2 _ (List.getElem_mem hj)] at h
  cases h
/-- a function under way that has boxed its node, and leaves all old blocks alone. -/
structure NSt (w0 : World) (p L B : Nat) (n : Nd) (b : Option Addr) (cap : Nat) (wr : World) : Prop where
  box : NdBox wr p n.kind n.text b n.kids.length cap n.from' n.till
  row : RowP wr L B n.kids b 0
  bel : Below w0.heap.size w0 wr
  hp : w0.heap.size ≤ p
  hB : B ≤ w0.heap.size
theorem NSt.bel' {w0 wr w' : World} {p L B : Nat} {n : Nd} {b : Option Addr} {cap : Nat} (h : NSt w0 p L B n b cap wr) (hb : Below wr.heap.size wr w') : NSt w0 p L B n b cap w' :=
  ⟨h.box.bel hb h.box.lt, RowP_bel h.row (hb.mono (Nat.le_trans h.hB h.bel.size)), bel_next h.bel hb, h.hp, h.hB⟩
theorem NSt.new {w : World} {L B : Nat} {n : Nd} {b : Option Addr} {cap : Nat} (hr : RowP w L B n.kids b 0) (hB : B ≤ w.heap.size) :
    NSt w w.heap.size L B n b cap (w.alloc (.cells #[.int .i64 n.kind, .string n.text, .slice b n.kids.length cap, .int .i64 n.from', .int .i64 n.till] 24)) :=
  ⟨heap_alloc_new _ _, RowP_bel hr ((Below.alloc (Below.refl _ w) (Nat.le_refl _) _).mono hB), Below.alloc (Below.refl _ w) (Nat.le_refl _) _, Nat.le_refl _, hB⟩
set_option maxRecDepth 20000 in
set_option maxHeartbeats 2000000 in
theorem shallow_any (n : Nd) : ∀ (left : Nat) (z : Int) (v : Value) (w : World) (L B : Nat), z = left → left ≤ 16384 → NdV w L B n v → B ≤ w.heap.size → ndSize n ≤ 4194304 →
    Calls Tryz.prog 23 #[v, .int .i64 z] w fun e w' => e = .returned (.bool (shal left n)) ∧ Below w.heap.size w w' := by
  induction n using Nd.ind with
  | h n ih =>
    intro left z v w L B hz hl hv hB hsz
    obtain ⟨b, cap, rfl, hcap, hrow⟩ := hv
    unfold ndCells
    cases left with
    | zero =>
      subst hz
      have HS := Lib.hid (shal_zero n)
      clear ih
      go_enter Tryz.func23, Tryz.ntmps23
      go_wp2_with fail
      go_ret
      exact ⟨by rw [HS.out]; rfl, (Below.refl _ _).alloc (Nat.le_refl _) _⟩
    | succ l =>
      have hz0 : (z == 0) = false := by rw [beq_eq_false_iff_ne]; omega
      obtain ⟨hzr1, hzr2⟩ : 0 < z ∧ z ≤ 16384 := by omega
      have hkc := kid_count n
      have HS := Lib.hid (show shal (l + 1) n = n.kids.all (shal l) by rw [shal_succ, shals_all])
      have HIH := Lib.hid (fun (W : World) (j : Nat) (hj : j < n.kids.length) (u : Value) (hu : NdV W L B n.kids[j] u) (hW : B ≤ W.heap.size) => ih _ (List.getElem_mem hj) l (z - 1) u W L B (by omega) (by omega) hu hW (by have := kid_size hj; omega))
      have HST := Lib.hid (NSt.new (cap := cap) hrow hB)
      clear hrow ih hz
      go_enter Tryz.func23, Tryz.ntmps23
      go_upto_region 3 with fail
      generalize World.alloc w _ = w1 at *
      generalize hp : w.heap.size = p at HST
      have HP := Lib.hid hp
      clear hp
      obtain ⟨d0, d1, d2, d3, d4, g0, g1, g2, g3, g4⟩ := NdBox.facts HST.out.box
      go_wp2_with fail
      clear d0 d1 d2 d3 d4 g0 g1 g2 g3 g4
      have HOLD := Lib.hid (show ∀ j, (hj : j < n.kids.length) → j < 0 → shal l n.kids[j] = true from fun _ _ h => absurd h (Nat.not_lt_zero _))
      go_loopw [5] (fun i wr => ∃ k : Nat, k ≤ n.kids.length ∧ i = .int .i64 k ∧ NSt w p L B n b cap wr ∧ Hid (∀ j, (hj : j < n.kids.length) → j < k → shal l n.kids[j] = true)) (fun i _ => n.kids.length - (intOf i).toNat)
      case atStart => exact ⟨0, Nat.zero_le _, rfl, HST.out, HOLD⟩
      case round =>
        clear HST HOLD
        obtain ⟨k, hk, rfl, hst, hold⟩ := hrel
        have HST := Lib.hid hst
        obtain ⟨d0, d1, d2, d3, d4, g0, g1, g2, g3, g4⟩ := NdBox.facts hst.box
        by_cases hlt : k < n.kids.length
        · obtain ⟨g, off, b', cap', rfl, hgB, c0, c1, c2, c3, c4, hkv⟩ := RowP_cells hst.row k hlt
          have hcall := HIH.out wr k hlt _ hkv (Nat.le_trans hst.hB hst.bel.size)
          generalize hkid : n.kids[k] = x at *
          have HX := Lib.hid hkid
          clear hst hkid hkv
          cases hsx : shal l x with
          | true =>
            rw [hsx] at hcall
            have HCALL := Lib.hid hcall
            have HSX := Lib.hid hsx
            clear hcall hsx
            go_wp2_with (go_at_call 23; refine HCALL.out.mono ?_; rintro e w2 ⟨rfl, hb2⟩)
            go_roundw
            case rel => exact ⟨k + 1, hlt, by go_num, HST.out.bel' hb2, Lib.hid (fun j hj hjk => by
              rcases Nat.lt_succ_iff_lt_or_eq.1 hjk with h | rfl
              · exact hold.out j hj h
              · rw [HX.out]; exact HSX.out)⟩
            case measure => simp [intOf]; omega
          | false =>
            rw [hsx] at hcall
            have HCALL := Lib.hid hcall
            have HSX := Lib.hid hsx
            clear hcall hsx
            go_wp2_with (go_at_call 23; refine HCALL.out.mono ?_; rintro e w2 ⟨rfl, hb2⟩)
            go_ret
            exact ⟨by rw [HS.out, all_not hlt (by rw [HX.out]; exact HSX.out)]; rfl, (HST.out.bel' hb2).bel⟩
        · obtain rfl : k = n.kids.length := by omega
          go_wp2_with fail
          go_ret
          exact ⟨by rw [HS.out, all_get (fun j hj => hold.out j hj hj)]; rfl, HST.out.bel⟩
end Go.Proofs.YteejjkfmmhegmaaGreatDoor
