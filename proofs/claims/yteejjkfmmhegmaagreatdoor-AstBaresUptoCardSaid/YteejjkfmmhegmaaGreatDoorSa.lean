/- AstSames' own function: it answers true. Condition: at most 2^22 nodes each. -/
import Derived.Test.YteejjkfmmhegmaaGreatDoorAw
namespace Go.Proofs.YteejjkfmmhegmaaGreatDoor
open Go.RowKit

/-- a node's value, wherever its rows lie. -/
def IsN (W : World) (n : Nd) (v : Value) : Prop := NdV W 0 W.heap.size n v
def IsL (W : World) (n : Nd) (v : Value) : Prop := LnV W 0 W.heap.size n v
theorem NdV.wide {W : World} {L B : Nat} {n : Nd} {v : Value} (h : NdV W L B n v) (hB : B ≤ W.heap.size) : IsN W n v := by
  obtain ⟨b, cap, h1, h2, h3⟩ := h
  exact ⟨b, cap, h1, h2, RowP_keep (Nat.zero_le _) hB (fun _ _ _ => rfl) h3⟩
theorem LnV.wide {W : World} {L B : Nat} {n : Nd} {v : Value} (h : LnV W L B n v) (hB : B ≤ W.heap.size) : IsL W n v := by
  obtain ⟨b, cap, h1, h2⟩ := h
  exact ⟨b, cap, h1, RowLn.keeps.k (Nat.zero_le _) hB (fun _ _ _ => rfl) h2⟩
theorem IsN.bel {W W' : World} {n : Nd} {v : Value} (h : IsN W n v) (hb : Below W.heap.size W W') : IsN W' n v := (NdV_bel h hb).wide hb.size
theorem IsL.bel {W W' : World} {n : Nd} {v : Value} (h : IsL W n v) (hb : Below W.heap.size W W') : IsL W' n v := (LnV.bel h hb).wide hb.size
theorem IsL.n {W : World} {n : Nd} {v : Value} (h : IsL W n v) : IsN W n v := LnV.v h
theorem isame (a c : Nd) (v u : Value) (W : World) (h : IsN W a v) (k : IsN W c u) (hs : ndSize a ≤ 4194304) :
    Calls Tryz.prog 9 #[v, u] W fun e w' => e = .returned (.bool (sameNd a c)) ∧ Below W.heap.size W w' := same_any a c v u W 0 _ h k (Nat.le_refl _) hs
theorem irsame (a c : Nd) (v u : Value) (W : World) (h : IsN W a v) (k : IsN W c u) (hs : ndSize a ≤ 4194304) :
    Calls Tryz.prog 11 #[v, u] W fun e w' => e = .returned (.bool (sameNd a c)) ∧ Below W.heap.size W w' := rsame_any a c v u W 0 _ h k (Nat.le_refl _) hs
theorem ishallow (n : Nd) (v : Value) (W : World) (h : IsN W n v) (hs : ndSize n ≤ 4194304) :
    Calls Tryz.prog 7 #[v] W fun e w' => e = .returned (.bool (shal 16384 n)) ∧ Below W.heap.size W w' := shallowNode_any n v W 0 _ h (Nat.le_refl _) hs
theorem ilend (n : Nd) (v : Value) (W : World) (h : IsN W n v) (hs : ndSize n ≤ 4194304) :
    Calls Tryz.prog 8 #[v] W fun e w' => ∃ b cap, e = .returned (.agg #[.int .i64 n.kind, .string n.text, .slice b n.kids.length cap, .int .i64 n.from', .int .i64 n.till]) ∧ IsL w' n (.agg #[.int .i64 n.kind, .string n.text, .slice b n.kids.length cap, .int .i64 n.from', .int .i64 n.till]) ∧ Below W.heap.size W w' :=
  (lend_any n v W 0 _ h (Nat.le_refl _) hs).mono fun e w' ⟨u, he, hu, hb⟩ => by
    have h2 := hu.wide (Nat.le_refl _)
    obtain ⟨b, cap, rfl, _⟩ := hu
    exact ⟨b, cap, he, h2, hb⟩
theorem icopy (n : Nd) (v : Value) (W : World) (h : IsN W n v) (hs : ndSize n ≤ 4194304) :
    Calls Tryz.prog 10 #[v] W fun e w' => ∃ b cap, e = .returned (.agg #[.int .i64 n.kind, .string n.text, .slice b n.kids.length cap, .int .i64 n.from', .int .i64 n.till]) ∧ IsN w' n (.agg #[.int .i64 n.kind, .string n.text, .slice b n.kids.length cap, .int .i64 n.from', .int .i64 n.till]) ∧ Below W.heap.size W w' :=
  (copy_any n v W 0 _ h (Nat.le_refl _) hs).mono fun e w' ⟨u, he, hu, hb⟩ => by
    have h2 := hu.v.wide (Nat.le_refl _)
    obtain ⟨b, cap, rfl, _⟩ := hu
    exact ⟨b, cap, he, h2, hb⟩
theorem ikept (n : Nd) (v u : Value) (W : World) (h : IsL W n v) (k : IsN W n u) (hs : ndSize n ≤ 4194304) :
    Calls Tryz.prog 12 #[v, u] W fun e w' => e = .returned (.bool true) ∧ Below W.heap.size W w' := kept_any n v u W 0 _ h k (Nat.le_refl _) hs
/-- a node's box. -/
abbrev Bx (W : World) (p : Nat) (n : Nd) (b : Option Addr) (cap : Nat) : Prop := NdBox W p n.kind n.text b n.kids.length cap n.from' n.till
/-- what is read of a box. -/
abbrev Fx (W : World) (p : Nat) (n : Nd) (b : Option Addr) (cap : Nat) : Prop := W.cell? ⟨p, 0, none⟩ = some (.int .i64 n.kind) ∧ W.cell? ⟨p, 1, none⟩ = some (.string n.text) ∧ W.cell? ⟨p, 2, none⟩ = some (.slice b n.kids.length cap) ∧ W.cell? ⟨p, 3, none⟩ = some (.int .i64 n.from') ∧ W.cell? ⟨p, 4, none⟩ = some (.int .i64 n.till)
theorem Bx.f {W W' : World} {p : Nat} {n : Nd} {b : Option Addr} {cap : Nat} (h : Bx W p n b cap) (hb : Below W.heap.size W W') : Fx W' p n b cap := by
  obtain ⟨d0, d1, d2, d3, d4, _⟩ := NdBox.facts (h.bel hb h.lt)
  exact ⟨d0, d1, d2, d3, d4⟩
theorem Bx.new (W : World) (n : Nd) (b : Option Addr) (cap : Nat) : Bx (W.alloc (.cells #[.int .i64 n.kind, .string n.text, .slice b n.kids.length cap, .int .i64 n.from', .int .i64 n.till] 24)) W.heap.size n b cap := heap_alloc_new _ _
/-- the copy with another place. -/
def zN (n : Nd) : Nd := .mk n.kind n.text n.kids (wrap64 (n.from' + 1)) n.till
theorem same_zN (n : Nd) : sameNd n (zN n) = true := (sameNd_iff n (zN n)).2 ⟨rfl, rfl, rfl, fun _ _ _ => sameNd_refl _⟩
theorem eq_self_bool (x : Bool) : (x == x) = true := by cases x <;> rfl
theorem z_isN {w : World} {n : Nd} {b : Option Addr} {cap : Nat} (h : IsN w n (.agg #[.int .i64 n.kind, .string n.text, .slice b n.kids.length cap, .int .i64 n.from', .int .i64 n.till])) (v : Value) :
    IsN ((w.alloc (.cells #[.int .i64 n.kind, .string n.text, .slice b n.kids.length cap, .int .i64 n.from', .int .i64 n.till] 24)).setCell ⟨w.heap.size, 3, none⟩ v) (zN n) (.agg #[.int .i64 n.kind, .string n.text, .slice b n.kids.length cap, .int .i64 (wrap64 (n.from' + 1)), .int .i64 n.till]) := by
  obtain ⟨b2, cap2, e, hc, hr⟩ := h
  unfold ndCells at e
  simp only [Value.agg.injEq, Array.mk.injEq, List.cons.injEq, Value.slice.injEq, true_and, and_true] at e
  obtain ⟨rfl, rfl⟩ := e
  refine ⟨b, cap, rfl, hc, RowP_keep (Nat.zero_le _) (by simp [World.setCell]) (fun k _ hk => ?_) hr⟩
  exact (Below.heap_setCell _ _ _ _ (by show k ≠ w.heap.size; omega)).trans (Below.heap_alloc _ _ _ hk)
set_option maxRecDepth 20000 in
set_option maxHeartbeats 4000000 in
theorem sames_any (a c : Nd) (v u : Value) (w : World) (hv : IsN w a v) (hu : IsN w c u) (ha : ndSize a ≤ 4194304) (hc : ndSize c ≤ 4194304) :
    Calls Tryz.prog 3 #[v, u] w fun e w' => e = .returned (.bool true) ∧ Below w.heap.size w w' := by
  have HV := Lib.hid hv
  have HU := Lib.hid hu
  have HSA := Lib.hid ha
  have HSC := Lib.hid hc
  obtain ⟨b1, cap1, rfl, _⟩ := hv
  obtain ⟨b2, cap2, rfl, _⟩ := hu
  clear ha hc
  unfold ndCells at *
  have hb := (alloc_bel w (.cells #[.int .i64 a.kind, .string a.text, .slice b1 a.kids.length cap1, .int .i64 a.from', .int .i64 a.till] 24)).alloc (by simp) (.cells #[.int .i64 c.kind, .string c.text, .slice b2 c.kids.length cap2, .int .i64 c.from', .int .i64 c.till] 24)
  have hx1 : Bx ((w.alloc (.cells #[.int .i64 a.kind, .string a.text, .slice b1 a.kids.length cap1, .int .i64 a.from', .int .i64 a.till] 24)).alloc (.cells #[.int .i64 c.kind, .string c.text, .slice b2 c.kids.length cap2, .int .i64 c.from', .int .i64 c.till] 24)) w.heap.size a b1 cap1 := NdBox.bel (Bx.new w a b1 cap1) (alloc_bel _ _) (by simp)
  have hx2 : Bx ((w.alloc (.cells #[.int .i64 a.kind, .string a.text, .slice b1 a.kids.length cap1, .int .i64 a.from', .int .i64 a.till] 24)).alloc (.cells #[.int .i64 c.kind, .string c.text, .slice b2 c.kids.length cap2, .int .i64 c.from', .int .i64 c.till] 24)) (w.heap.size + 1) c b2 cap2 := by
    have := Bx.new (w.alloc (.cells #[.int .i64 a.kind, .string a.text, .slice b1 a.kids.length cap1, .int .i64 a.from', .int .i64 a.till] 24)) c b2 cap2
    rw [World.size_alloc] at this
    exact this
  go_enter Tryz.func3, Tryz.ntmps3
  go_upto_region 1 with fail
  generalize World.alloc (World.alloc w _) _ = w1 at *
  have HX1 := Lib.hid hx1
  have HX2 := Lib.hid hx2
  have HV1 := Lib.hid (HV.out.bel hb)
  have HU1 := Lib.hid (HU.out.bel hb)
  have HB := Lib.hid hb
  have HF := Lib.hid (fun (W : World) (hb : Below w1.heap.size w1 W) => (⟨hx1.f hb, hx2.f hb⟩ : Fx W w.heap.size a b1 cap1 ∧ Fx W (w.heap.size + 1) c b2 cap2))
  clear hb hx1 hx2
  have hb : Below w1.heap.size w1 w1 := Below.refl _ _
  obtain ⟨⟨a0, a1, a2, a3, a4⟩, ⟨b0, b01, b02, b3, b4⟩⟩ := HF.out _ hb
  -- are both shallow?
  have HS1 := Lib.hid (ishallow a _ w1 HV1.out HSA.out)
  go_wp2_with fail
  refine HS1.out.mono ?_
  rintro e w2 ⟨rfl, hb2⟩
  replace hb := bel_next hb hb2
  clear a0 a1 a2 a3 a4 b0 b01 b02 b3 b4 HS1 hb2
  obtain ⟨⟨a0, a1, a2, a3, a4⟩, ⟨b0, b01, b02, b3, b4⟩⟩ := HF.out _ hb
  cases hs1 : shal 16384 a with
  | false =>
    clear hs1
    go_wp2_with fail
    go_ret
    exact ⟨rfl, bel_next HB.out hb⟩
  | true =>
    have HS2 := Lib.hid (ishallow c _ w2 (HU1.out.bel hb) HSC.out)
    clear hs1
    go_wp2_with fail
    refine HS2.out.mono ?_
    rintro e w3 ⟨rfl, hb2⟩
    replace hb := bel_next hb hb2
    clear a0 a1 a2 a3 a4 b0 b01 b02 b3 b4 HS2 hb2
    obtain ⟨⟨a0, a1, a2, a3, a4⟩, ⟨b0, b01, b02, b3, b4⟩⟩ := HF.out _ hb
    cases hs2 : shal 16384 c with
    | false =>
      clear hs2
      go_wp2_with fail
      go_ret
      exact ⟨rfl, bel_next HB.out hb⟩
    | true =>
      clear hs2
      -- both lent
      have HL1 := Lib.hid (ilend a _ w3 (HV1.out.bel hb) HSA.out)
      go_upto_region 4 with (go_at_call 8; refine HL1.out.mono ?_; rintro e w4 ⟨b5, cap5, rfl, hl5, hb4⟩)
      have hx5 := Bx.new w4 a b5 cap5
      have hal := alloc_bel w4 (.cells #[.int .i64 a.kind, .string a.text, .slice b5 a.kids.length cap5, .int .i64 a.from', .int .i64 a.till] 24)
      have HL5 := Lib.hid (hl5.bel hal)
      replace hb := bel_next (bel_next hb hb4) hal
      generalize World.alloc w4 _ = w5 at *
      generalize w4.heap.size = r5 at *
      have HX5 := Lib.hid hx5
      clear a0 a1 a2 a3 a4 b0 b01 b02 b3 b4 HL1 hb4 hl5 hal hx5
      obtain ⟨⟨a0, a1, a2, a3, a4⟩, ⟨b0, b01, b02, b3, b4⟩⟩ := HF.out _ hb
      have HL2 := Lib.hid (ilend c _ w5 (HU1.out.bel hb) HSC.out)
      go_upto_region 5 with (go_at_call 8; refine HL2.out.mono ?_; rintro e w6 ⟨b6, cap6, rfl, hl6, hb6⟩)
      have hx6 := Bx.new w6 c b6 cap6
      have hal := alloc_bel w6 (.cells #[.int .i64 c.kind, .string c.text, .slice b6 c.kids.length cap6, .int .i64 c.from', .int .i64 c.till] 24)
      have HL6 := Lib.hid (hl6.bel hal)
      have hb67 := bel_next hb6 hal
      replace hb := bel_next hb hb67
      generalize World.alloc w6 _ = w7 at *
      generalize w6.heap.size = r6 at *
      have HX6 := Lib.hid hx6
      have HX5b := Lib.hid (HX5.out.bel hb67 HX5.out.lt)
      have HL5b := Lib.hid (HL5.out.bel hb67)
      clear a0 a1 a2 a3 a4 b0 b01 b02 b3 b4 HL2 hb6 hl6 hal hx6 hb67 HX5 HL5
      -- the first comparison
      obtain ⟨c0, c1, c2, c3, c4⟩ := Bx.f HX5b.out (Below.refl _ w7)
      obtain ⟨d0, d1, d2, d3, d4⟩ := Bx.f HX6.out (Below.refl _ w7)
      have HSM := Lib.hid (isame a c _ _ w7 HL5b.out.n HL6.out.n HSA.out)
      go_upto_region 6 with (go_at_call 9; refine HSM.out.mono ?_; rintro e w8 ⟨rfl, hb8⟩)
      replace hb := bel_next hb hb8
      have HX5 := Lib.hid (HX5b.out.bel hb8 HX5b.out.lt)
      have HL5 := Lib.hid (HL5b.out.bel hb8)
      have HX6c := Lib.hid (HX6.out.bel hb8 HX6.out.lt)
      have HL6c := Lib.hid (HL6.out.bel hb8)
      clear c0 c1 c2 c3 c4 d0 d1 d2 d3 d4 HSM hb8 HX5b HL5b HX6 HL6
      have HBW8 := Lib.hid hb
      obtain ⟨⟨a0, a1, a2, a3, a4⟩, ⟨b0, b01, b02, b3, b4⟩⟩ := HF.out _ hb
      -- a copy
      have HCP := Lib.hid (icopy a _ w8 (HV1.out.bel hb) HSA.out)
      go_upto_region 7 with (go_at_call 10; refine HCP.out.mono ?_; rintro e w9 ⟨b8, cap8, rfl, hl8, hb9⟩)
      have hx8 := Bx.new w9 a b8 cap8
      have HZ := Lib.hid (z_isN hl8)
      have hal := alloc_bel w9 (.cells #[.int .i64 a.kind, .string a.text, .slice b8 a.kids.length cap8, .int .i64 a.from', .int .i64 a.till] 24)
      have hb9a := bel_next hb9 hal
      replace hb := bel_next hb hb9a
      generalize World.alloc w9 _ = w10 at *
      generalize hr8 : w9.heap.size = r8 at *
      have hw8 : w8.heap.size ≤ r8 := by rw [← hr8]; exact hb9.size
      have HX8 := Lib.hid hx8
      have HW8 := Lib.hid hw8
      obtain ⟨c0, c1, c2, c3, c4, f0, f1, f2, f3, f4⟩ := NdBox.facts hx8
      have hr8l := hx8.lt
      clear a0 a1 a2 a3 a4 b0 b01 b02 b3 b4 HCP hb9 hl8 hal hx8 hr8 hw8
      go_upto_region 8 with fail
      have HB8 := Lib.hid (hb9a.setCell (p := ⟨r8, 3, none⟩) HW8.out (.int .i64 (wrap64 (a.from' + 1))))
      have HX11 := Lib.hid (show Bx (w10.setCell ⟨r8, 3, none⟩ (.int .i64 (wrap64 (a.from' + 1)))) r8 (zN a) b8 cap8 from heap_setCell_same w10 r8 3 _ 24 (.int .i64 (wrap64 (a.from' + 1))) HX8.out)
      have HZ2 := Lib.hid (HZ.out (.int .i64 (wrap64 (a.from' + 1))))
      have hfin := bel_next HBW8.out HB8.out
      clear HZ HX8 c0 c1 c2 c3 c4 f0 f1 f2 f3 f4 hb hr8l hb9a
      generalize World.setCell w10 _ _ = w11 at *
      have HG := Lib.hid (fun (W : World) (hb : Below w11.heap.size w11 W) => (⟨(HF.out _ (bel_next hfin hb)).1, (HF.out _ (bel_next hfin hb)).2, Bx.f HX5.out (bel_next HB8.out hb), Bx.f HX6c.out (bel_next HB8.out hb), HX11.out.f hb⟩ :
        Fx W w.heap.size a b1 cap1 ∧ Fx W (w.heap.size + 1) c b2 cap2 ∧ Fx W r5 a b5 cap5 ∧ Fx W r6 c b6 cap6 ∧ Fx W r8 (zN a) b8 cap8))
      have HA1 := Lib.hid (fun (W : World) (hb : Below w11.heap.size w11 W) => (HV1.out.bel hfin).bel hb)
      have HC1 := Lib.hid (fun (W : World) (hb : Below w11.heap.size w11 W) => (HU1.out.bel hfin).bel hb)
      have HA5 := Lib.hid (fun (W : World) (hb : Below w11.heap.size w11 W) => (HL5.out.bel HB8.out).bel hb)
      have HC6 := Lib.hid (fun (W : World) (hb : Below w11.heap.size w11 W) => (HL6c.out.bel HB8.out).bel hb)
      have HZ8 := Lib.hid (fun (W : World) (hb : Below w11.heap.size w11 W) => HZ2.out.bel hb)
      have HBF := Lib.hid (bel_next HB.out hfin)
      have G1 := Lib.hid (fun (W : World) (hb : Below w11.heap.size w11 W) => irsame a c _ _ W (HA1.out W hb) (HC1.out W hb) HSA.out)
      have G2 := Lib.hid (fun (W : World) (hb : Below w11.heap.size w11 W) => by have h := isame c a _ _ W (HC6.out W hb).n (HA5.out W hb).n HSC.out; rw [sameNd_symm c a] at h; exact h)
      have G3 := Lib.hid (fun (W : World) (hb : Below w11.heap.size w11 W) => by have h := isame a (zN a) _ _ W (HA5.out W hb).n (HZ8.out W hb) HSA.out; rw [same_zN a] at h; exact h)
      have G4 := Lib.hid (fun (W : World) (hb : Below w11.heap.size w11 W) => ikept a _ _ W (HA5.out W hb) (HA1.out W hb) HSA.out)
      have G5 := Lib.hid (fun (W : World) (hb : Below w11.heap.size w11 W) => ikept c _ _ W (HC6.out W hb) (HC1.out W hb) HSC.out)
      have hb : Below w11.heap.size w11 w11 := Below.refl _ _
      obtain ⟨⟨a0, a1, a2, a3, a4⟩, ⟨b0, b01, b02, b3, b4⟩, ⟨c0, c1, c2, c3, c4⟩, ⟨d0, d1, d2, d3, d4⟩, ⟨e0, e1, e2, e3, e4⟩⟩ := HG.out _ hb
      generalize hsm : sameNd a c = sm at *
      have hss := eq_self_bool sm
      clear hfin HF HX5 HX6c HX11 HBW8 HV1 HU1 HL5 HL6c HZ2 HB8 hsm
      go_wp2_with fail
      refine (G1.out _ hb).mono ?_
      rintro e w2 ⟨rfl, hb2⟩
      replace hb := bel_next hb hb2
      clear hb2 a0 a1 a2 a3 a4 b0 b01 b02 b3 b4 c0 c1 c2 c3 c4 d0 d1 d2 d3 d4 e0 e1 e2 e3 e4
      obtain ⟨⟨a0, a1, a2, a3, a4⟩, ⟨b0, b01, b02, b3, b4⟩, ⟨c0, c1, c2, c3, c4⟩, ⟨d0, d1, d2, d3, d4⟩, ⟨e0, e1, e2, e3, e4⟩⟩ := HG.out _ hb
      go_wp2_with fail
      refine (G2.out _ hb).mono ?_
      rintro e w2 ⟨rfl, hb2⟩
      replace hb := bel_next hb hb2
      clear hb2 a0 a1 a2 a3 a4 b0 b01 b02 b3 b4 c0 c1 c2 c3 c4 d0 d1 d2 d3 d4 e0 e1 e2 e3 e4
      obtain ⟨⟨a0, a1, a2, a3, a4⟩, ⟨b0, b01, b02, b3, b4⟩, ⟨c0, c1, c2, c3, c4⟩, ⟨d0, d1, d2, d3, d4⟩, ⟨e0, e1, e2, e3, e4⟩⟩ := HG.out _ hb
      go_wp2_with fail
      refine (G3.out _ hb).mono ?_
      rintro e w2 ⟨rfl, hb2⟩
      replace hb := bel_next hb hb2
      clear hb2 a0 a1 a2 a3 a4 b0 b01 b02 b3 b4 c0 c1 c2 c3 c4 d0 d1 d2 d3 d4 e0 e1 e2 e3 e4
      obtain ⟨⟨a0, a1, a2, a3, a4⟩, ⟨b0, b01, b02, b3, b4⟩, ⟨c0, c1, c2, c3, c4⟩, ⟨d0, d1, d2, d3, d4⟩, ⟨e0, e1, e2, e3, e4⟩⟩ := HG.out _ hb
      go_wp2_with fail
      refine (G4.out _ hb).mono ?_
      rintro e w2 ⟨rfl, hb2⟩
      replace hb := bel_next hb hb2
      clear hb2 a0 a1 a2 a3 a4 b0 b01 b02 b3 b4 c0 c1 c2 c3 c4 d0 d1 d2 d3 d4 e0 e1 e2 e3 e4
      obtain ⟨⟨a0, a1, a2, a3, a4⟩, ⟨b0, b01, b02, b3, b4⟩, ⟨c0, c1, c2, c3, c4⟩, ⟨d0, d1, d2, d3, d4⟩, ⟨e0, e1, e2, e3, e4⟩⟩ := HG.out _ hb
      go_wp2_with fail
      refine (G5.out _ hb).mono ?_
      rintro e w2 ⟨rfl, hb2⟩
      replace hb := bel_next hb hb2
      clear hb2 a0 a1 a2 a3 a4 b0 b01 b02 b3 b4 c0 c1 c2 c3 c4 d0 d1 d2 d3 d4 e0 e1 e2 e3 e4
      obtain ⟨⟨a0, a1, a2, a3, a4⟩, ⟨b0, b01, b02, b3, b4⟩, ⟨c0, c1, c2, c3, c4⟩, ⟨d0, d1, d2, d3, d4⟩, ⟨e0, e1, e2, e3, e4⟩⟩ := HG.out _ hb
      go_wp2_with fail
      refine (awake_any _).mono ?_
      rintro e w2 ⟨rfl, hb2⟩
      replace hb := bel_next hb hb2
      clear hb2 a0 a1 a2 a3 a4 b0 b01 b02 b3 b4 c0 c1 c2 c3 c4 d0 d1 d2 d3 d4 e0 e1 e2 e3 e4
      obtain ⟨⟨a0, a1, a2, a3, a4⟩, ⟨b0, b01, b02, b3, b4⟩, ⟨c0, c1, c2, c3, c4⟩, ⟨d0, d1, d2, d3, d4⟩, ⟨e0, e1, e2, e3, e4⟩⟩ := HG.out _ hb
      go_wp2_with fail
      go_ret
      exact ⟨rfl, bel_next HBF.out hb⟩
end Go.Proofs.YteejjkfmmhegmaaGreatDoor
