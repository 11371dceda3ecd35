/- Contracts of the reference's large, deep, fits, Bare. Condition: at most 2^22 nodes. | Contracts of the reference's fits and Bare, of the program's Size, Depth and Bare. Condition: at most 2^22 nodes. | Contracts of the program's Size, Depth and Bare. Condition: at most 2^22 nodes. -/
import Derived.Test.YteejjkfmmhegmaaGreatDoorMc
namespace Go.Proofs.YteejjkfmmhegmaaGreatDoor
open Go.RowKit

theorem ndSizes_append : ∀ a b : List Nd, ndSizes (a ++ b) = ndSizes a + ndSizes b
  | [], b => by rw [List.nil_append, ndSizes, Nat.zero_add]
  | x :: a, b => by rw [List.cons_append, ndSizes, ndSizes, ndSizes_append a b]; omega
theorem ndDeeps_append : ∀ a b : List Nd, ndDeeps (a ++ b) = max (ndDeeps a) (ndDeeps b)
  | [], b => by rw [List.nil_append, ndDeeps]; omega
  | x :: a, b => by rw [List.cons_append, ndDeeps, ndDeeps, ndDeeps_append a b]; omega
theorem sizes_take {ks : List Nd} {k : Nat} (h : k < ks.length) : ndSizes (ks.take (k + 1)) = ndSizes (ks.take k) + ndSize ks[k] := by
  rw [List.take_succ_eq_append_getElem h, ndSizes_append, ndSizes, ndSizes]
  omega
theorem deeps_take {ks : List Nd} {k : Nat} (h : k < ks.length) : ndDeeps (ks.take (k + 1)) = max (ndDeeps (ks.take k)) (ndDeep ks[k]) := by
  rw [List.take_succ_eq_append_getElem h, ndDeeps_append, ndDeeps, ndDeeps]
  omega
theorem sizes_take_le (ks : List Nd) (k : Nat) : ndSizes (ks.take k) ≤ ndSizes ks := by
  have := ndSizes_append (ks.take k) (ks.drop k)
  rw [List.take_append_drop] at this
  omega
set_option maxRecDepth 20000 in
set_option maxHeartbeats 2000000 in
theorem large_any (n : Nd) : ∀ (m : Nat) (v : Value) (w : World) (L B : Nat), NdV w L B n v → B ≤ w.heap.size → m + ndSize n ≤ 4194304 →
    Calls Tryz.prog 32 #[v, .int .i64 m] w fun e w' => e = .returned (.int .i64 ((m + ndSize n : Nat) : Int)) ∧ Below w.heap.size w w' := by
  induction n using Nd.ind with
  | h n ih =>
    intro m v w L B hv hB hsz
    obtain ⟨b, cap, rfl, hcap, hrow⟩ := hv
    unfold ndCells
    have HKC := Lib.hid (kid_count n)
    have hkc : n.kids.length < 5000000 := by have := kid_count n; omega
    have HSZ := Lib.hid hsz
    have HIH := Lib.hid (fun (W : World) (j : Nat) (hj : j < n.kids.length) (m : Nat) (u : Value) (hu : NdV W L B n.kids[j] u) (hW : B ≤ W.heap.size) (hm : m + ndSize n.kids[j] ≤ 4194304) => ih _ (List.getElem_mem hj) m u W L B hu hW hm)
    have HST := Lib.hid (NSt.new (cap := cap) hrow hB)
    have hwr : wrap64 ((m : Int) + 1) = ((m + 1 : Nat) : Int) := by rw [IntWalk.wrap64_in _ (by omega)]; rfl
    have HWR := Lib.hid hwr
    clear hrow ih hsz hwr
    go_enter Tryz.func32, Tryz.ntmps32
    go_upto_region 2 with fail
    generalize World.alloc w _ = w1 at *
    generalize hp : w.heap.size = p at HST
    have HP := Lib.hid hp
    clear hp
    go_wp2_with fail
    go_loopw [1, 5] (fun v1 i wr => ∃ k : Nat, k ≤ n.kids.length ∧ i = .int .i64 k ∧ v1 = .int .i64 ((m + 1 + ndSizes (n.kids.take k) : Nat) : Int) ∧ NSt w p L B n b cap wr) (fun _ i _ => n.kids.length - (intOf i).toNat)
    case atStart => exact ⟨0, Nat.zero_le _, rfl, by rw [List.take_zero, ndSizes, HWR.out, Nat.add_zero], HST.out⟩
    case round =>
      clear HST
      obtain ⟨k, hk, rfl, rfl, hst⟩ := hrel
      have HST := Lib.hid hst
      obtain ⟨d0, d1, d2, d3, d4, g0, g1, g2, g3, g4⟩ := NdBox.facts hst.box
      have hz := ndSize_eq n
      have hle := sizes_take_le n.kids k
      have hsz := HSZ.out
      by_cases hlt : k < n.kids.length
      · obtain ⟨g, off, b', cap', rfl, hgB, c0, c1, c2, c3, c4, hkv⟩ := RowP_cells hst.row k hlt
        have hst2 := sizes_take hlt
        have hle2 := sizes_take_le n.kids (k + 1)
        have htt : decide (((m + 1 + ndSizes (n.kids.take k) : Nat) : Int) ≤ 4194304) = true := by rw [decide_eq_true_eq]; omega
        have hcall := HIH.out wr k hlt (m + 1 + ndSizes (n.kids.take k)) _ hkv (Nat.le_trans hst.hB hst.bel.size) (by omega)
        have HS2 := Lib.hid hst2
        generalize n.kids[k] = x at *
        generalize hq : m + 1 + ndSizes (n.kids.take k) = q at *
        have HQ := Lib.hid hq
        have HCALL := Lib.hid hcall
        clear hst hkv hcall hst2 hle hle2 hz hsz hq
        go_wp2_with fail
        refine HCALL.out.mono ?_
        rintro e w2 ⟨rfl, hb2⟩
        go_wp2_with fail
        go_roundw
        case rel => exact ⟨k + 1, hlt, by go_num, by rw [HS2.out, ← Nat.add_assoc, HQ.out]; rfl, HST.out.bel' hb2⟩
        case measure => simp [intOf]; omega
      · obtain rfl : k = n.kids.length := by omega
        clear hle hz hsz hst
        go_wp2_with fail
        go_ret
        exact ⟨by rw [List.take_length, ndSize_eq n, Nat.add_assoc]; rfl, HST.out.bel⟩
set_option maxRecDepth 20000 in
set_option maxHeartbeats 2000000 in
theorem deep_any (n : Nd) : ∀ (v : Value) (w : World) (L B : Nat), NdV w L B n v → B ≤ w.heap.size → ndSize n ≤ 4194304 →
    Calls Tryz.prog 33 #[v] w fun e w' => e = .returned (.int .i64 ((ndDeep n : Nat) : Int)) ∧ Below w.heap.size w w' := by
  induction n using Nd.ind with
  | h n ih =>
    intro v w L B hv hB hsz
    obtain ⟨b, cap, rfl, hcap, hrow⟩ := hv
    unfold ndCells
    have HDL := Lib.hid (fun x (_ : x ∈ n.kids) => deep_le x)
    have hkc : n.kids.length < 5000000 := by have := kid_count n; omega
    have HSZ := Lib.hid hsz
    have HIH := Lib.hid (fun (W : World) (j : Nat) (hj : j < n.kids.length) (u : Value) (hu : NdV W L B n.kids[j] u) (hW : B ≤ W.heap.size) => ih _ (List.getElem_mem hj) u W L B hu hW (by have := kid_size hj; omega))
    have HST := Lib.hid (NSt.new (cap := cap) hrow hB)
    clear hrow ih hsz
    go_enter Tryz.func33, Tryz.ntmps33
    go_upto_region 2 with fail
    generalize World.alloc w _ = w1 at *
    generalize hp : w.heap.size = p at HST
    have HP := Lib.hid hp
    clear hp
    go_wp2_with fail
    go_loopw [3, 4] (fun v1 i wr => ∃ k : Nat, k ≤ n.kids.length ∧ i = .int .i64 k ∧ v1 = .int .i64 ((ndDeeps (n.kids.take k) : Nat) : Int) ∧ NSt w p L B n b cap wr) (fun _ i _ => n.kids.length - (intOf i).toNat)
    case atStart => exact ⟨0, Nat.zero_le _, rfl, by rw [List.take_zero, ndDeeps]; rfl, HST.out⟩
    case round =>
      clear HST
      obtain ⟨k, hk, rfl, rfl, hst⟩ := hrel
      have HST := Lib.hid hst
      obtain ⟨d0, d1, d2, d3, d4, g0, g1, g2, g3, g4⟩ := NdBox.facts hst.box
      by_cases hlt : k < n.kids.length
      · obtain ⟨g, off, b', cap', rfl, hgB, c0, c1, c2, c3, c4, hkv⟩ := RowP_cells hst.row k hlt
        have HS2 := Lib.hid (deeps_take hlt)
        have hcall := HIH.out wr k hlt _ hkv (Nat.le_trans hst.hB hst.bel.size)
        generalize n.kids[k] = x at *
        generalize hq : ndDeeps (n.kids.take k) = q at *
        generalize hy : ndDeep x = y at *
        have HCALL := Lib.hid hcall
        clear hst hkv hcall hq hy
        go_wp2_with fail
        refine HCALL.out.mono ?_
        rintro e w2 ⟨rfl, hb2⟩
        go_wp2_with fail
        go_roundw
        case rel => exact ⟨k + 1, hlt, by go_num, by rw [HS2.out]; congr 1; omega, HST.out.bel' hb2⟩
        case measure => simp [intOf]; omega
      · obtain rfl : k = n.kids.length := by omega
        have hdl : ndDeeps n.kids ≤ 5000000 := by have := deeps_le n.kids HDL.out; have := HSZ.out; have := ndSize_eq n; omega
        rw [List.take_length]
        generalize hq : ndDeeps n.kids = q at *
        have HQ := Lib.hid hq
        clear hst hq
        go_wp2_with fail
        go_ret
        exact ⟨by rw [ndDeep_eq n, HQ.out, Nat.add_comm]; rfl, HST.out.bel⟩
end Go.Proofs.YteejjkfmmhegmaaGreatDoor
namespace Go.Proofs.YteejjkfmmhegmaaGreatDoor
open Go.RowKit

/-- a node's box behind its making. -/
theorem box_new (w : World) (n : Nd) (b : Option Addr) (cap : Nat) : NdBox (w.alloc (.cells #[.int .i64 n.kind, .string n.text, .slice b n.kids.length cap, .int .i64 n.from', .int .i64 n.till] 24)) w.heap.size n.kind n.text b n.kids.length cap n.from' n.till := heap_alloc_new _ _
theorem alloc_bel (w : World) (o : Obj) : Below w.heap.size w (w.alloc o) := Below.alloc (Below.refl _ w) (Nat.le_refl _) _
set_option maxRecDepth 20000 in
set_option maxHeartbeats 2000000 in
theorem fits_any (n : Nd) (v : Value) (w : World) (L B : Nat) (hv : NdV w L B n v) (hB : B ≤ w.heap.size) (hsz : ndSize n ≤ 4194304) :
    Calls Tryz.prog 27 #[v] w fun e w' => e = .returned (.bool (decide (ndDeep n ≤ 8000))) ∧ Below w.heap.size w w' := by
  have HV := Lib.hid hv
  obtain ⟨b, cap, rfl, _⟩ := hv
  unfold ndCells at *
  have hba := alloc_bel w (.cells #[.int .i64 n.kind, .string n.text, .slice b n.kids.length cap, .int .i64 n.from', .int .i64 n.till] 24)
  have hbx := box_new w n b cap
  have HSZ := Lib.hid hsz
  clear hsz
  go_enter Tryz.func27, Tryz.ntmps27
  go_upto_region 1 with fail
  generalize World.alloc w _ = w1 at *
  have HB := Lib.hid hba
  have HX := Lib.hid hbx
  obtain ⟨d0, d1, d2, d3, d4, g0, g1, g2, g3, g4⟩ := NdBox.facts hbx
  have HN := Lib.hid (large_any n 0 _ w1 L B (NdV_bel HV.out (hba.mono hB)) (Nat.le_trans hB hba.size) (by have := HSZ.out; omega))
  clear hba hbx
  go_wp2_with fail
  refine HN.out.mono ?_
  rintro e w2 ⟨rfl, hb2⟩
  have HB2 := Lib.hid (bel_next HB.out hb2)
  have hbx2 := HX.out.bel hb2 HX.out.lt
  clear hb2 d0 d1 d2 d3 d4 g0 g1 g2 g3 g4 HX HN
  have htt : decide (((0 + ndSize n : Nat) : Int) ≤ 4194304) = true := by have := HSZ.out; rw [decide_eq_true_eq]; omega
  generalize hq : 0 + ndSize n = q at *
  clear hq
  obtain ⟨d0, d1, d2, d3, d4, g0, g1, g2, g3, g4⟩ := NdBox.facts hbx2
  have HN := Lib.hid (deep_any n _ w2 L B (NdV_bel HV.out (HB2.out.mono hB)) (Nat.le_trans hB HB2.out.size) HSZ.out)
  clear hbx2
  go_wp2_with fail
  refine HN.out.mono ?_
  rintro e w3 ⟨rfl, hb3⟩
  have HB3 := Lib.hid (bel_next HB2.out hb3)
  have HDD := Lib.hid (show decide (((ndDeep n : Nat) : Int) ≤ 8000) = decide (ndDeep n ≤ 8000) by rw [decide_eq_decide]; omega)
  clear hb3
  generalize hy : ndDeep n = y at *
  have HY := Lib.hid hy
  clear hy
  go_wp2_with fail
  go_ret
  refine ⟨?_, HB3.out⟩
  rw [HY.out, ← HDD.out]
  rfl
/-- what Bare answers. -/
def bareT (n : Nd) : Nd := if ndDeep n ≤ 8000 then bareNd n else .zero
set_option maxRecDepth 20000 in
set_option maxHeartbeats 2000000 in
theorem rBare_any (n : Nd) (v : Value) (w : World) (L B : Nat) (hv : NdV w L B n v) (hB : B ≤ w.heap.size) (hsz : ndSize n ≤ 4194304) :
    Calls Tryz.prog 15 #[v] w fun e w' => ∃ u, e = .returned u ∧ NdW w' w.heap.size w'.heap.size (bareT n) u ∧ Below w.heap.size w w' := by
  have HV := Lib.hid hv
  obtain ⟨b, cap, rfl, _⟩ := hv
  unfold ndCells at *
  have hba := (alloc_bel w (.cells #[.int .i64 n.kind, .string n.text, .slice b n.kids.length cap, .int .i64 n.from', .int .i64 n.till] 24)).alloc (by simp) (.cells #[.int .i64 0, .string ⟨#[]⟩, .slice none 0 0, .int .i64 0, .int .i64 0] 24)
  have hbx := (box_new w n b cap).bel (alloc_bel _ (.cells #[.int .i64 0, .string ⟨#[]⟩, .slice none 0 0, .int .i64 0, .int .i64 0] 24)) (by simp)
  have hbq : NdBoxV ((w.alloc (.cells #[.int .i64 n.kind, .string n.text, .slice b n.kids.length cap, .int .i64 n.from', .int .i64 n.till] 24)).alloc (.cells #[.int .i64 0, .string ⟨#[]⟩, .slice none 0 0, .int .i64 0, .int .i64 0] 24)) (w.heap.size + 1) 0 ⟨#[]⟩ (.slice none 0 0) 0 0 := by
    have := heap_alloc_new (w.alloc (.cells #[.int .i64 n.kind, .string n.text, .slice b n.kids.length cap, .int .i64 n.from', .int .i64 n.till] 24)) (.cells #[.int .i64 0, .string ⟨#[]⟩, .slice none 0 0, .int .i64 0, .int .i64 0] 24)
    rw [World.size_alloc] at this
    exact this
  go_enter Tryz.func15, Tryz.ntmps15
  go_upto_region 1 with fail
  generalize World.alloc (World.alloc w _) _ = w1 at *
  have HB := Lib.hid hba
  have HX := Lib.hid hbx
  have HQ := Lib.hid hbq
  obtain ⟨d0, d1, d2, d3, d4, g0, g1, g2, g3, g4⟩ := NdBox.facts hbx
  have HN := Lib.hid (fits_any n _ w1 L B (NdV_bel HV.out (hba.mono hB)) (Nat.le_trans hB hba.size) hsz)
  clear hba hbx hbq
  go_wp2_with fail
  refine HN.out.mono ?_
  rintro e w2 ⟨rfl, hb2⟩
  have HB2 := Lib.hid (bel_next HB.out hb2)
  have hbx2 := HX.out.bel hb2 HX.out.lt
  have hbq2 := HQ.out.bel hb2
  clear hb2 d0 d1 d2 d3 d4 g0 g1 g2 g3 g4 HX HN
  obtain ⟨d0, d1, d2, d3, d4, g0, g1, g2, g3, g4⟩ := NdBox.facts hbx2
  obtain ⟨x0, x1, x2, x3, x4, y0, y1, y2, y3, y4⟩ := NdBoxV.facts hbq2
  have HQ2 := Lib.hid hbq2
  have hql := hbq2.lt
  by_cases hd : ndDeep n ≤ 8000
  · have HT := Lib.hid (show bareT n = bareNd n by rw [bareT, if_pos hd])
    have hdd : decide (ndDeep n ≤ 8000) = true := decide_eq_true hd
    have HN := Lib.hid (rbare_any n _ w2 L B (NdV_bel HV.out (HB2.out.mono hB)) (Nat.le_trans hB HB2.out.size) hsz)
    clear hbx2 hd hbq2
    go_wp2_with fail
    refine HN.out.mono ?_
    rintro e w3 ⟨u, rfl, hu, hb3⟩
    have HB3 := Lib.hid (bel_next HB2.out hb3)
    have hbq3 := HQ2.out.bel hb3
    have HU := Lib.hid hu
    have HQ3 := Lib.hid hbq3
    obtain ⟨b4, cap4, rfl, _⟩ := hu
    clear hb3 d0 d1 d2 d3 d4 g0 g1 g2 g3 g4 x0 x1 x2 x3 x4 y0 y1 y2 y3 y4
    unfold ndCells at *
    obtain ⟨x0, x1, x2, x3, x4, y0, y1, y2, y3, y4⟩ := NdBoxV.facts hbq3
    have hql3 := hbq3.lt
    clear hbq3
    go_wp2_with fail
    refine bodyPost_ret (results_nd rfl _ _ (w.heap.size + 1) rfl (HQ3.out.lay)) rfl ?_
    refine ⟨_, rfl, ?_, lay5_bel HB3.out (by omega) _ _ _ _ _⟩
    rw [HT.out]
    obtain ⟨b5, cap5, e5, hr5⟩ := HU.out
    refine ⟨b5, cap5, e5, RowE.keeps.k HB2.out.size (Nat.le_of_eq (by simp [World.setCell])) (fun k h1 _ => lay5_block _ _ _ _ _ _ _ _ (by omega)) hr5⟩
  · have HT := Lib.hid (show bareT n = .zero by rw [bareT, if_neg hd])
    have hdd : decide (ndDeep n ≤ 8000) = false := decide_eq_false hd
    clear hbx2 hd hbq2
    go_wp2_with fail
    refine bodyPost_ret (results_nd rfl _ _ (w.heap.size + 1) rfl (HQ2.out.lay)) rfl ?_
    refine ⟨_, rfl, ?_, lay5_bel HB2.out (by omega) _ _ _ _ _⟩
    rw [HT.out]
    exact NdW.zero _ _ _
end Go.Proofs.YteejjkfmmhegmaaGreatDoor
namespace Go.Proofs.YteejjkfmmhegmaaGreatDoor
open Go.RowKit

theorem NdBox.ndc {w : World} {p L B : Nat} {n : Nd} {b : Option Addr} {cap : Nat} (h : NdBox w p n.kind n.text b n.kids.length cap n.from' n.till) (hc : n.kids.length ≤ cap) (hr : RowP w L B n.kids b 0) (hB : B ≤ w.heap.size) : NdC w 0 w.heap.size n p 0 := by
  obtain ⟨d0, d1, d2, d3, d4, _⟩ := NdBox.facts h
  rw [NdC_eq]
  exact ⟨b, cap, Nat.zero_le _, h.lt, d0, d1, d2, d3, d4, hc, RowP_keep (Nat.zero_le _) hB (fun _ _ _ => rfl) hr⟩
/-- what measure answers, in its three parts. -/
def msS (n : Nd) : Int := if ndDeep n ≤ 8000 then ((ndSize n : Nat) : Int) else 0
def msD (n : Nd) : Int := if ndDeep n ≤ 8000 then ((ndDeep n : Nat) : Int) else 0
def msE (n : Nd) : Int := if ndDeep n ≤ 8000 then 0 else 801
theorem msV_eq (n : Nd) : msV n = .tuple #[.int .i64 (msS n), .int .i64 (msD n), .int .i64 (msE n)] := by
  unfold msV msS msD msE
  split <;> rfl
/-- measure at a node in a box. -/
theorem measure_box (n : Nd) (w w1 : World) (L B p : Nat) (b : Option Addr) (cap : Nat) (hb : Below w.heap.size w w1) (hB : B ≤ w.heap.size) (hx : NdBox w1 p n.kind n.text b n.kids.length cap n.from' n.till) (hc : n.kids.length ≤ cap) (hr : RowP w L B n.kids b 0) (hsz : ndSize n ≤ 4194304) :
    Calls Tryz.prog 25 #[.pointer (some ⟨p, 0, none⟩)] w1 fun e w' => e = .returned (.tuple #[.int .i64 (msS n), .int .i64 (msD n), .int .i64 (msE n)]) ∧ Below w1.heap.size w1 w' :=
  (measure_any n p 0 0 w1.heap.size w1 (hx.ndc hc (RowP_bel hr (hb.mono hB)) (Nat.le_trans hB hb.size)) (Nat.le_refl _) hsz).mono fun e w' ⟨he, hw⟩ => ⟨by rw [he, msV_eq], hw⟩
set_option maxRecDepth 20000 in
set_option maxHeartbeats 2000000 in
theorem size_any (n : Nd) (v : Value) (w : World) (L B : Nat) (hv : NdV w L B n v) (hB : B ≤ w.heap.size) (hsz : ndSize n ≤ 4194304) :
    Calls Tryz.prog 22 #[v] w fun e w' => e = .returned (.int .i64 (msS n)) ∧ Below w.heap.size w w' := by
  obtain ⟨b, cap, rfl, hcap, hrow⟩ := hv
  unfold ndCells at *
  have hba := alloc_bel w (.cells #[.int .i64 n.kind, .string n.text, .slice b n.kids.length cap, .int .i64 n.from', .int .i64 n.till] 24)
  have hbx := box_new w n b cap
  have HR := Lib.hid hrow
  clear hrow
  go_enter Tryz.func22, Tryz.ntmps22
  go_upto_region 1 with fail
  generalize World.alloc w _ = w1 at *
  have HB := Lib.hid hba
  have HN := Lib.hid (measure_box n w w1 L B _ b cap hba hB hbx hcap HR.out hsz)
  clear hba hbx hsz
  go_wp2_with fail
  refine HN.out.mono ?_
  rintro e w2 ⟨rfl, hb2⟩
  have HB2 := Lib.hid (bel_next HB.out hb2)
  clear hb2
  go_wp2_with fail
  go_ret
  exact ⟨rfl, HB2.out⟩
set_option maxRecDepth 20000 in
set_option maxHeartbeats 2000000 in
theorem depth_any (n : Nd) (v : Value) (w : World) (L B : Nat) (hv : NdV w L B n v) (hB : B ≤ w.heap.size) (hsz : ndSize n ≤ 4194304) :
    Calls Tryz.prog 21 #[v] w fun e w' => e = .returned (.int .i64 (msD n)) ∧ Below w.heap.size w w' := by
  obtain ⟨b, cap, rfl, hcap, hrow⟩ := hv
  unfold ndCells at *
  have hba := alloc_bel w (.cells #[.int .i64 n.kind, .string n.text, .slice b n.kids.length cap, .int .i64 n.from', .int .i64 n.till] 24)
  have hbx := box_new w n b cap
  have HR := Lib.hid hrow
  clear hrow
  go_enter Tryz.func21, Tryz.ntmps21
  go_upto_region 1 with fail
  generalize World.alloc w _ = w1 at *
  have HB := Lib.hid hba
  have HN := Lib.hid (measure_box n w w1 L B _ b cap hba hB hbx hcap HR.out hsz)
  clear hba hbx hsz
  go_wp2_with fail
  refine HN.out.mono ?_
  rintro e w2 ⟨rfl, hb2⟩
  have HB2 := Lib.hid (bel_next HB.out hb2)
  clear hb2
  go_wp2_with fail
  go_ret
  exact ⟨rfl, HB2.out⟩
set_option maxRecDepth 20000 in
set_option maxHeartbeats 2000000 in
theorem Bare_any (n : Nd) (v : Value) (w : World) (L B : Nat) (hv : NdV w L B n v) (hB : B ≤ w.heap.size) (hsz : ndSize n ≤ 4194304) :
    Calls Tryz.prog 14 #[v] w fun e w' => ∃ u, e = .returned u ∧ NdW w' w.heap.size w'.heap.size (bareT n) u ∧ Below w.heap.size w w' := by
  obtain ⟨b, cap, rfl, hcap, hrow⟩ := hv
  unfold ndCells at *
  have hba := (alloc_bel w (.cells #[.int .i64 n.kind, .string n.text, .slice b n.kids.length cap, .int .i64 n.from', .int .i64 n.till] 24)).alloc (by simp) (.cells #[.int .i64 0, .string ⟨#[]⟩, .slice none 0 0, .int .i64 0, .int .i64 0] 24)
  have hbx := (box_new w n b cap).bel (alloc_bel _ (.cells #[.int .i64 0, .string ⟨#[]⟩, .slice none 0 0, .int .i64 0, .int .i64 0] 24)) (by simp)
  have hbq : NdBoxV ((w.alloc (.cells #[.int .i64 n.kind, .string n.text, .slice b n.kids.length cap, .int .i64 n.from', .int .i64 n.till] 24)).alloc (.cells #[.int .i64 0, .string ⟨#[]⟩, .slice none 0 0, .int .i64 0, .int .i64 0] 24)) (w.heap.size + 1) 0 ⟨#[]⟩ (.slice none 0 0) 0 0 := by
    have := heap_alloc_new (w.alloc (.cells #[.int .i64 n.kind, .string n.text, .slice b n.kids.length cap, .int .i64 n.from', .int .i64 n.till] 24)) (.cells #[.int .i64 0, .string ⟨#[]⟩, .slice none 0 0, .int .i64 0, .int .i64 0] 24)
    rw [World.size_alloc] at this
    exact this
  have HR := Lib.hid hrow
  clear hrow
  go_enter Tryz.func14, Tryz.ntmps14
  go_upto_region 1 with fail
  generalize World.alloc (World.alloc w _) _ = w1 at *
  have HB := Lib.hid hba
  have HX := Lib.hid hbx
  have HQ := Lib.hid hbq
  have HN := Lib.hid (measure_box n w w1 L B _ b cap hba hB hbx hcap HR.out hsz)
  clear hba hbx hbq
  go_wp2_with fail
  refine HN.out.mono ?_
  rintro e w2 ⟨rfl, hb2⟩
  have HB2 := Lib.hid (bel_next HB.out hb2)
  have HX2 := Lib.hid (HX.out.bel hb2 HX.out.lt)
  have hbq2 := HQ.out.bel hb2
  clear hb2 HX HN
  obtain ⟨x0, x1, x2, x3, x4, y0, y1, y2, y3, y4⟩ := NdBoxV.facts hbq2
  have HQ2 := Lib.hid hbq2
  have hql := hbq2.lt
  by_cases hd : ndDeep n ≤ 8000
  · have HT := Lib.hid (show bareT n = bareNd n by rw [bareT, if_pos hd])
    have hdd : (msE n != 0) = false := by rw [msE, if_pos hd]; rfl
    have HN := Lib.hid (bare_any n w.heap.size 0 w2 0 w2.heap.size (HX2.out.ndc hcap (RowP_bel HR.out (HB2.out.mono hB)) (Nat.le_trans hB HB2.out.size)) (Nat.le_refl _) hsz)
    clear hd hbq2
    go_wp2_with fail
    refine HN.out.mono ?_
    rintro e w3 ⟨u, rfl, hu, hb3⟩
    have HB3 := Lib.hid (bel_next HB2.out hb3)
    have hbq3 := HQ2.out.bel hb3
    have HU := Lib.hid hu
    have HQ3 := Lib.hid hbq3
    obtain ⟨b4, cap4, rfl, _⟩ := hu
    clear hb3 x0 x1 x2 x3 x4 y0 y1 y2 y3 y4
    unfold ndCells at *
    obtain ⟨x0, x1, x2, x3, x4, y0, y1, y2, y3, y4⟩ := NdBoxV.facts hbq3
    have hql3 := hbq3.lt
    clear hbq3
    go_wp2_with fail
    refine bodyPost_ret (results_nd rfl _ _ (w.heap.size + 1) rfl (HQ3.out.lay)) rfl ?_
    refine ⟨_, rfl, ?_, lay5_bel HB3.out (by omega) _ _ _ _ _⟩
    rw [HT.out]
    obtain ⟨b5, cap5, e5, hr5⟩ := HU.out
    refine ⟨b5, cap5, e5, RowE.keeps.k HB2.out.size (Nat.le_of_eq (by simp [World.setCell])) (fun k h1 _ => lay5_block _ _ _ _ _ _ _ _ (by omega)) hr5⟩
  · have HT := Lib.hid (show bareT n = .zero by rw [bareT, if_neg hd])
    have hdd : (msE n != 0) = true := by rw [msE, if_neg hd]; rfl
    clear hd hbq2
    go_wp2_with fail
    refine bodyPost_ret (results_nd rfl _ _ (w.heap.size + 1) rfl (HQ2.out.lay)) rfl ?_
    refine ⟨_, rfl, ?_, lay5_bel HB2.out (by omega) _ _ _ _ _⟩
    rw [HT.out]
    exact NdW.zero _ _ _
end Go.Proofs.YteejjkfmmhegmaaGreatDoor
