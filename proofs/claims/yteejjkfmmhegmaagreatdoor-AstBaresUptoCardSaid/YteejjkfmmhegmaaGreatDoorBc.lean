/- Contracts of the program's Size, Depth and Bare. Condition: at most 2^22 nodes. -/
import Derived.Test.YteejjkfmmhegmaaGreatDoorBb
namespace Go.Proofs.YteejjkfmmhegmaaGreatDoor
open Go.RowKit

theorem NdBox.ndc {w : World} {p L B : Nat} {n : Nd} {b : Option Addr} {cap : Nat} (h : NdBox w p n.kind n.text b n.kids.length cap n.from' n.till) (hc : n.kids.length ≤ cap) (hr : RowP w L B n.kids b 0) (hB : B ≤ w.heap.size) : NdC w 0 w.heap.size n p 0 := by
  obtain ⟨d0, d1, d2, d3, d4, _⟩ := NdBox.facts h
  rw [NdC_eq]
  exact ⟨b, cap, Nat.zero_le _, h.lt, d0, d1, d2, d3, d4, hc, RowP_keep (Nat.zero_le _) hB (fun _ _ _ => rfl) hr⟩
/-- what measure answers, in its three parts. -/
def msS (n : Nd) : Int := if ndDeep n ≤ 8000 then ((ndSize n : Nat) : Int) else 0
def msD (n : Nd) : Int := if ndDeep n ≤ 8000 then ((ndDeep n : Nat) : Int) else 0
def msE (n : Nd) : Int := if ndDeep n ≤ 8000 then 0 else 801
theorem msV_eq (n : Nd) : msV n = .tuple #[.int .i64 (msS n), .int .i64 (msD n), .int .i64 (msE n)] := by
  unfold msV msS msD msE
  split <;> rfl
/-- measure at a node in a box. -/
theorem measure_box (n : Nd) (w w1 : World) (L B p : Nat) (b : Option Addr) (cap : Nat) (hb : Below w.heap.size w w1) (hB : B ≤ w.heap.size) (hx : NdBox w1 p n.kind n.text b n.kids.length cap n.from' n.till) (hc : n.kids.length ≤ cap) (hr : RowP w L B n.kids b 0) (hsz : ndSize n ≤ 4194304) :
    Calls Tryz.prog 25 #[.pointer (some ⟨p, 0, none⟩)] w1 fun e w' => e = .returned (.tuple #[.int .i64 (msS n), .int .i64 (msD n), .int .i64 (msE n)]) ∧ Below w1.heap.size w1 w' :=
  (measure_any n p 0 0 w1.heap.size w1 (hx.ndc hc (RowP_bel hr (hb.mono hB)) (Nat.le_trans hB hb.size)) (Nat.le_refl _) hsz).mono fun e w' ⟨he, hw⟩ => ⟨by rw [he, msV_eq], hw⟩
set_option maxRecDepth 20000 in
set_option maxHeartbeats 2000000 in
theorem size_any (n : Nd) (v : Value) (w : World) (L B : Nat) (hv : NdV w L B n v) (hB : B ≤ w.heap.size) (hsz : ndSize n ≤ 4194304) :
    Calls Tryz.prog 22 #[v] w fun e w' => e = .returned (.int .i64 (msS n)) ∧ Below w.heap.size w w' := by
  obtain ⟨b, cap, rfl, hcap, hrow⟩ := hv
  unfold ndCells at *
  have hba := alloc_bel w (.cells #[.int .i64 n.kind, .string n.text, .slice b n.kids.length cap, .int .i64 n.from', .int .i64 n.till] 24)
  have hbx := box_new w n b cap
  have HR := Lib.hid hrow
  clear hrow
  go_enter Tryz.func22, Tryz.ntmps22
  go_upto_region 1 with fail
  generalize World.alloc w _ = w1 at *
  have HB := Lib.hid hba
  have HN := Lib.hid (measure_box n w w1 L B _ b cap hba hB hbx hcap HR.out hsz)
  clear hba hbx hsz
  go_wp2_with fail
  refine HN.out.mono ?_
  rintro e w2 ⟨rfl, hb2⟩
  have HB2 := Lib.hid (bel_next HB.out hb2)
  clear hb2
  go_wp2_with fail
  go_ret
  exact ⟨rfl, HB2.out⟩
set_option maxRecDepth 20000 in
set_option maxHeartbeats 2000000 in
theorem depth_any (n : Nd) (v : Value) (w : World) (L B : Nat) (hv : NdV w L B n v) (hB : B ≤ w.heap.size) (hsz : ndSize n ≤ 4194304) :
    Calls Tryz.prog 21 #[v] w fun e w' => e = .returned (.int .i64 (msD n)) ∧ Below w.heap.size w w' := by
  obtain ⟨b, cap, rfl, hcap, hrow⟩ := hv
  unfold ndCells at *
  have hba := alloc_bel w (.cells #[.int .i64 n.kind, .string n.text, .slice b n.kids.length cap, .int .i64 n.from', .int .i64 n.till] 24)
  have hbx := box_new w n b cap
  have HR := Lib.hid hrow
  clear hrow
  go_enter Tryz.func21, Tryz.ntmps21
  go_upto_region 1 with fail
  generalize World.alloc w _ = w1 at *
  have HB := Lib.hid hba
  have HN := Lib.hid (measure_box n w w1 L B _ b cap hba hB hbx hcap HR.out hsz)
  clear hba hbx hsz
  go_wp2_with fail
  refine HN.out.mono ?_
  rintro e w2 ⟨rfl, hb2⟩
  have HB2 := Lib.hid (bel_next HB.out hb2)
  clear hb2
  go_wp2_with fail
  go_ret
  exact ⟨rfl, HB2.out⟩
set_option maxRecDepth 20000 in
set_option maxHeartbeats 2000000 in
theorem Bare_any (n : Nd) (v : Value) (w : World) (L B : Nat) (hv : NdV w L B n v) (hB : B ≤ w.heap.size) (hsz : ndSize n ≤ 4194304) :
    Calls Tryz.prog 14 #[v] w fun e w' => ∃ u, e = .returned u ∧ NdW w' w.heap.size w'.heap.size (bareT n) u ∧ Below w.heap.size w w' := by
  obtain ⟨b, cap, rfl, hcap, hrow⟩ := hv
  unfold ndCells at *
  have hba := (alloc_bel w (.cells #[.int .i64 n.kind, .string n.text, .slice b n.kids.length cap, .int .i64 n.from', .int .i64 n.till] 24)).alloc (by simp) (.cells #[.int .i64 0, .string ⟨#[]⟩, .slice none 0 0, .int .i64 0, .int .i64 0] 24)
  have hbx := (box_new w n b cap).bel (alloc_bel _ (.cells #[.int .i64 0, .string ⟨#[]⟩, .slice none 0 0, .int .i64 0, .int .i64 0] 24)) (by simp)
  have hbq : NdBoxV ((w.alloc (.cells #[.int .i64 n.kind, .string n.text, .slice b n.kids.length cap, .int .i64 n.from', .int .i64 n.till] 24)).alloc (.cells #[.int .i64 0, .string ⟨#[]⟩, .slice none 0 0, .int .i64 0, .int .i64 0] 24)) (w.heap.size + 1) 0 ⟨#[]⟩ (.slice none 0 0) 0 0 := by
    have := heap_alloc_new (w.alloc (.cells #[.int .i64 n.kind, .string n.text, .slice b n.kids.length cap, .int .i64 n.from', .int .i64 n.till] 24)) (.cells #[.int .i64 0, .string ⟨#[]⟩, .slice none 0 0, .int .i64 0, .int .i64 0] 24)
    rw [World.size_alloc] at this
    exact this
  have HR := Lib.hid hrow
  clear hrow
  go_enter Tryz.func14, Tryz.ntmps14
  go_upto_region 1 with fail
  generalize World.alloc (World.alloc w _) _ = w1 at *
  have HB := Lib.hid hba
  have HX := Lib.hid hbx
  have HQ := Lib.hid hbq
  have HN := Lib.hid (measure_box n w w1 L B _ b cap hba hB hbx hcap HR.out hsz)
  clear hba hbx hbq
  go_wp2_with fail
  refine HN.out.mono ?_
  rintro e w2 ⟨rfl, hb2⟩
  have HB2 := Lib.hid (bel_next HB.out hb2)
  have HX2 := Lib.hid (HX.out.bel hb2 HX.out.lt)
  have hbq2 := HQ.out.bel hb2
  clear hb2 HX HN
  obtain ⟨x0, x1, x2, x3, x4, y0, y1, y2, y3, y4⟩ := NdBoxV.facts hbq2
  have HQ2 := Lib.hid hbq2
  have hql := hbq2.lt
  by_cases hd : ndDeep n ≤ 8000
  · have HT := Lib.hid (show bareT n = bareNd n by rw [bareT, if_pos hd])
    have hdd : (msE n != 0) = false := by rw [msE, if_pos hd]; rfl
    have HN := Lib.hid (bare_any n w.heap.size 0 w2 0 w2.heap.size (HX2.out.ndc hcap (RowP_bel HR.out (HB2.out.mono hB)) (Nat.le_trans hB HB2.out.size)) (Nat.le_refl _) hsz)
    clear hd hbq2
    go_wp2_with fail
    refine HN.out.mono ?_
    rintro e w3 ⟨u, rfl, hu, hb3⟩
    have HB3 := Lib.hid (bel_next HB2.out hb3)
    have hbq3 := HQ2.out.bel hb3
    have HU := Lib.hid hu
    have HQ3 := Lib.hid hbq3
    obtain ⟨b4, cap4, rfl, _⟩ := hu
    clear hb3 x0 x1 x2 x3 x4 y0 y1 y2 y3 y4
    unfold ndCells at *
    obtain ⟨x0, x1, x2, x3, x4, y0, y1, y2, y3, y4⟩ := NdBoxV.facts hbq3
    have hql3 := hbq3.lt
    clear hbq3
    go_wp2_with fail
    refine bodyPost_ret (results_nd rfl _ _ (w.heap.size + 1) rfl (HQ3.out.lay)) rfl ?_
    refine ⟨_, rfl, ?_, lay5_bel HB3.out (by omega) _ _ _ _ _⟩
    rw [HT.out]
    obtain ⟨b5, cap5, e5, hr5⟩ := HU.out
    refine ⟨b5, cap5, e5, RowE.keeps.k HB2.out.size (Nat.le_of_eq (by simp [World.setCell])) (fun k h1 _ => lay5_block _ _ _ _ _ _ _ _ (by omega)) hr5⟩
  · have HT := Lib.hid (show bareT n = .zero by rw [bareT, if_neg hd])
    have hdd : (msE n != 0) = true := by rw [msE, if_neg hd]; rfl
    clear hd hbq2
    go_wp2_with fail
    refine bodyPost_ret (results_nd rfl _ _ (w.heap.size + 1) rfl (HQ2.out.lay)) rfl ?_
    refine ⟨_, rfl, ?_, lay5_bel HB2.out (by omega) _ _ _ _ _⟩
    rw [HT.out]
    exact NdW.zero _ _ _
end Go.Proofs.YteejjkfmmhegmaaGreatDoor
