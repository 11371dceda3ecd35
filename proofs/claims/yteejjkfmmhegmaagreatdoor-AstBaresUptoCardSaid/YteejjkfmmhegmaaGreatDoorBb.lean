/- Contracts of the reference's fits and Bare, of the program's Size, Depth and Bare. Condition: at most 2^22 nodes. -/
import Derived.Test.YteejjkfmmhegmaaGreatDoorLd
namespace Go.Proofs.YteejjkfmmhegmaaGreatDoor
open Go.RowKit

/-- a node's box behind its making. -/
theorem box_new (w : World) (n : Nd) (b : Option Addr) (cap : Nat) : NdBox (w.alloc (.cells #[.int .i64 n.kind, .string n.text, .slice b n.kids.length cap, .int .i64 n.from', .int .i64 n.till] 24)) w.heap.size n.kind n.text b n.kids.length cap n.from' n.till := heap_alloc_new _ _
theorem alloc_bel (w : World) (o : Obj) : Below w.heap.size w (w.alloc o) := Below.alloc (Below.refl _ w) (Nat.le_refl _) _
set_option maxRecDepth 20000 in
set_option maxHeartbeats 2000000 in
theorem fits_any (n : Nd) (v : Value) (w : World) (L B : Nat) (hv : NdV w L B n v) (hB : B ≤ w.heap.size) (hsz : ndSize n ≤ 4194304) :
    Calls Tryz.prog 27 #[v] w fun e w' => e = .returned (.bool (decide (ndDeep n ≤ 8000))) ∧ Below w.heap.size w w' := by
  have HV := Lib.hid hv
  obtain ⟨b, cap, rfl, _⟩ := hv
  unfold ndCells at *
  have hba := alloc_bel w (.cells #[.int .i64 n.kind, .string n.text, .slice b n.kids.length cap, .int .i64 n.from', .int .i64 n.till] 24)
  have hbx := box_new w n b cap
  have HSZ := Lib.hid hsz
  clear hsz
  go_enter Tryz.func27, Tryz.ntmps27
  go_upto_region 1 with fail
  generalize World.alloc w _ = w1 at *
  have HB := Lib.hid hba
  have HX := Lib.hid hbx
  obtain ⟨d0, d1, d2, d3, d4, g0, g1, g2, g3, g4⟩ := NdBox.facts hbx
  have HN := Lib.hid (large_any n 0 _ w1 L B (NdV_bel HV.out (hba.mono hB)) (Nat.le_trans hB hba.size) (by have := HSZ.out; omega))
  clear hba hbx
  go_wp2_with fail
  refine HN.out.mono ?_
  rintro e w2 ⟨rfl, hb2⟩
  have HB2 := Lib.hid (bel_next HB.out hb2)
  have hbx2 := HX.out.bel hb2 HX.out.lt
  clear hb2 d0 d1 d2 d3 d4 g0 g1 g2 g3 g4 HX HN
  have htt : decide (((0 + ndSize n : Nat) : Int) ≤ 4194304) = true := by have := HSZ.out; rw [decide_eq_true_eq]; omega
  generalize hq : 0 + ndSize n = q at *
  clear hq
  obtain ⟨d0, d1, d2, d3, d4, g0, g1, g2, g3, g4⟩ := NdBox.facts hbx2
  have HN := Lib.hid (deep_any n _ w2 L B (NdV_bel HV.out (HB2.out.mono hB)) (Nat.le_trans hB HB2.out.size) HSZ.out)
  clear hbx2
  go_wp2_with fail
  refine HN.out.mono ?_
  rintro e w3 ⟨rfl, hb3⟩
  have HB3 := Lib.hid (bel_next HB2.out hb3)
  have HDD := Lib.hid (show decide (((ndDeep n : Nat) : Int) ≤ 8000) = decide (ndDeep n ≤ 8000) by rw [decide_eq_decide]; omega)
  clear hb3
  generalize hy : ndDeep n = y at *
  have HY := Lib.hid hy
  clear hy
  go_wp2_with fail
  go_ret
  refine ⟨?_, HB3.out⟩
  rw [HY.out, ← HDD.out]
  rfl
/-- what Bare answers. -/
def bareT (n : Nd) : Nd := if ndDeep n ≤ 8000 then bareNd n else .zero
set_option maxRecDepth 20000 in
set_option maxHeartbeats 2000000 in
theorem rBare_any (n : Nd) (v : Value) (w : World) (L B : Nat) (hv : NdV w L B n v) (hB : B ≤ w.heap.size) (hsz : ndSize n ≤ 4194304) :
    Calls Tryz.prog 15 #[v] w fun e w' => ∃ u, e = .returned u ∧ NdW w' w.heap.size w'.heap.size (bareT n) u ∧ Below w.heap.size w w' := by
  have HV := Lib.hid hv
  obtain ⟨b, cap, rfl, _⟩ := hv
  unfold ndCells at *
  have hba := (alloc_bel w (.cells #[.int .i64 n.kind, .string n.text, .slice b n.kids.length cap, .int .i64 n.from', .int .i64 n.till] 24)).alloc (by simp) (.cells #[.int .i64 0, .string ⟨#[]⟩, .slice none 0 0, .int .i64 0, .int .i64 0] 24)
  have hbx := (box_new w n b cap).bel (alloc_bel _ (.cells #[.int .i64 0, .string ⟨#[]⟩, .slice none 0 0, .int .i64 0, .int .i64 0] 24)) (by simp)
  have hbq : NdBoxV ((w.alloc (.cells #[.int .i64 n.kind, .string n.text, .slice b n.kids.length cap, .int .i64 n.from', .int .i64 n.till] 24)).alloc (.cells #[.int .i64 0, .string ⟨#[]⟩, .slice none 0 0, .int .i64 0, .int .i64 0] 24)) (w.heap.size + 1) 0 ⟨#[]⟩ (.slice none 0 0) 0 0 := by
    have := heap_alloc_new (w.alloc (.cells #[.int .i64 n.kind, .string n.text, .slice b n.kids.length cap, .int .i64 n.from', .int .i64 n.till] 24)) (.cells #[.int .i64 0, .string ⟨#[]⟩, .slice none 0 0, .int .i64 0, .int .i64 0] 24)
    rw [World.size_alloc] at this
    exact this
  go_enter Tryz.func15, Tryz.ntmps15
  go_upto_region 1 with fail
  generalize World.alloc (World.alloc w _) _ = w1 at *
  have HB := Lib.hid hba
  have HX := Lib.hid hbx
  have HQ := Lib.hid hbq
  obtain ⟨d0, d1, d2, d3, d4, g0, g1, g2, g3, g4⟩ := NdBox.facts hbx
  have HN := Lib.hid (fits_any n _ w1 L B (NdV_bel HV.out (hba.mono hB)) (Nat.le_trans hB hba.size) hsz)
  clear hba hbx hbq
  go_wp2_with fail
  refine HN.out.mono ?_
  rintro e w2 ⟨rfl, hb2⟩
  have HB2 := Lib.hid (bel_next HB.out hb2)
  have hbx2 := HX.out.bel hb2 HX.out.lt
  have hbq2 := HQ.out.bel hb2
  clear hb2 d0 d1 d2 d3 d4 g0 g1 g2 g3 g4 HX HN
  obtain ⟨d0, d1, d2, d3, d4, g0, g1, g2, g3, g4⟩ := NdBox.facts hbx2
  obtain ⟨x0, x1, x2, x3, x4, y0, y1, y2, y3, y4⟩ := NdBoxV.facts hbq2
  have HQ2 := Lib.hid hbq2
  have hql := hbq2.lt
  by_cases hd : ndDeep n ≤ 8000
  · have HT := Lib.hid (show bareT n = bareNd n by rw [bareT, if_pos hd])
    have hdd : decide (ndDeep n ≤ 8000) = true := decide_eq_true hd
    have HN := Lib.hid (rbare_any n _ w2 L B (NdV_bel HV.out (HB2.out.mono hB)) (Nat.le_trans hB HB2.out.size) hsz)
    clear hbx2 hd hbq2
    go_wp2_with fail
    refine HN.out.mono ?_
    rintro e w3 ⟨u, rfl, hu, hb3⟩
    have HB3 := Lib.hid (bel_next HB2.out hb3)
    have hbq3 := HQ2.out.bel hb3
    have HU := Lib.hid hu
    have HQ3 := Lib.hid hbq3
    obtain ⟨b4, cap4, rfl, _⟩ := hu
    clear hb3 d0 d1 d2 d3 d4 g0 g1 g2 g3 g4 x0 x1 x2 x3 x4 y0 y1 y2 y3 y4
    unfold ndCells at *
    obtain ⟨x0, x1, x2, x3, x4, y0, y1, y2, y3, y4⟩ := NdBoxV.facts hbq3
    have hql3 := hbq3.lt
    clear hbq3
    go_wp2_with fail
    refine bodyPost_ret (results_nd rfl _ _ (w.heap.size + 1) rfl (HQ3.out.lay)) rfl ?_
    refine ⟨_, rfl, ?_, lay5_bel HB3.out (by omega) _ _ _ _ _⟩
    rw [HT.out]
    obtain ⟨b5, cap5, e5, hr5⟩ := HU.out
    refine ⟨b5, cap5, e5, RowE.keeps.k HB2.out.size (Nat.le_of_eq (by simp [World.setCell])) (fun k h1 _ => lay5_block _ _ _ _ _ _ _ _ (by omega)) hr5⟩
  · have HT := Lib.hid (show bareT n = .zero by rw [bareT, if_neg hd])
    have hdd : decide (ndDeep n ≤ 8000) = false := decide_eq_false hd
    clear hbx2 hd hbq2
    go_wp2_with fail
    refine bodyPost_ret (results_nd rfl _ _ (w.heap.size + 1) rfl (HQ2.out.lay)) rfl ?_
    refine ⟨_, rfl, ?_, lay5_bel HB2.out (by omega) _ _ _ _ _⟩
    rw [HT.out]
    exact NdW.zero _ _ _
end Go.Proofs.YteejjkfmmhegmaaGreatDoor
