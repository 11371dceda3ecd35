/- Contract of platenlaw8's awake: it answers true. Condition: what a law leans on (Lx) is not wanted. -/
import Derived.Test.YteejjkfmmhegmaaGreatDoorEy
namespace Go.Proofs.YteejjkfmmhegmaaGreatDoor
open Go.RowKit

/-- the trees of awake. -/
def idN (s : ByteArray) : Nd := .mk 1 s [] 0 0
def lA : ByteArray := ⟨#[97]⟩
def lLet : ByteArray := ⟨#[108, 101, 116]⟩
def awN : Nd := .mk 26 ⟨#[]⟩ [idN lA] 3 0
theorem idN_size (s : ByteArray) : ndSize (idN s) = 1 := by rw [idN, ndSize, ndSizes]
theorem idN_deep (s : ByteArray) : ndDeep (idN s) = 1 := by rw [idN, ndDeep, ndDeeps]
theorem awN_size : ndSize awN = 2 := by rw [awN, ndSize, ndSizes, ndSizes, idN_size]
theorem awN_deep : ndDeep awN = 2 := by rw [awN, ndDeep, ndDeeps, ndDeeps, idN_deep]; rfl
theorem id_v (w : World) (L B : Nat) (s : ByteArray) : NdV w L B (idN s) (.agg #[.int .i64 1, .string s, .slice none 0 0, .int .i64 0, .int .i64 0]) :=
  ⟨none, 0, rfl, Nat.le_refl _, by show RowP _ _ _ [] _ _; rw [RowP]; trivial⟩
theorem lident_any (s : ByteArray) (w : World) : Calls Tryz.prog 18 #[.string s] w fun e w' => e = .returned (.agg #[.int .i64 1, .string s, .slice none 0 0, .int .i64 0, .int .i64 0]) ∧ Below w.heap.size w w' := by
  go_enter Tryz.func18, Tryz.ntmps18
  go_wp2_with fail
  have h := heap_alloc_new w (.cells #[.int .i64 1, .string s, .slice none 0 0, .int .i64 0, .int .i64 0] 24)
  refine bodyPost_ret (results_nd rfl _ _ w.heap.size rfl h) rfl ?_
  exact ⟨rfl, alloc_bel _ _⟩
/-- expression of an Ident. -/
theorem expr_ident (s : ByteArray) (v r : Bool) (W : World) (g o L B : Nat) (hn : NdC W L B (idN s) g o) (hB : B ≤ W.heap.size) (hs : s.size ≤ 16777216) (hv : nameOK s.data.toList = v) (hr : ∀ w, Calls Tryz.prog 69 #[.string s, .bool false] w fun e w' => e = .returned (.bool r) ∧ w = w') :
    Calls Tryz.prog 30 #[.pointer (some ⟨g, o, none⟩)] W fun e w' => e = .returned (.bool (v && !r)) ∧ Below W.heap.size W w' :=
  expr_1 (idN s) g o L B W _ hn hB rfl (own_ident (idN s) g o L B W _ hn hB rfl rfl (fun w => ident_of s v r w hs hv hr))
/-- expression of a Paren around what is one. -/
theorem expr_paren (x : Nd) (f u : Int) (v : Bool) (W : World) (g o L B : Nat) (hn : NdC W L B (.mk 26 ⟨#[]⟩ [x] f u) g o) (hB : B ≤ W.heap.size)
    (hex : ∀ (W2 : World) (g2 o2 : Nat), Below W.heap.size W W2 → NdC W2 L B x g2 o2 → Calls Tryz.prog 30 #[.pointer (some ⟨g2, o2, none⟩)] W2 fun e w' => e = .returned (.bool v) ∧ Below W2.heap.size W2 w') :
    Calls Tryz.prog 30 #[.pointer (some ⟨g, o, none⟩)] W fun e w' => e = .returned (.bool v) ∧ Below W.heap.size W w' :=
  expr_26 _ g o L B W v hn hB rfl (own_paren _ g o L B W v hn hB rfl rfl x rfl hex)
theorem name_a : nameOK lA.data.toList = true := by decide +kernel
theorem name_let : nameOK lLet.data.toList = true := by decide +kernel
theorem aw_check1 (v : Value) (w : World) (L B : Nat) (hv : NdV w L B awN v) (hB : B ≤ w.heap.size) : Calls Tryz.prog 19 #[v] w fun e w' => e = .returned (.int .i64 0) ∧ Below w.heap.size w w' := by
  have h := Check_any awN v w L B true hv hB (by rw [awN_size]; decide) (by decide) (fun _ W g o L2 B2 hn hB2 _ => expr_paren _ _ _ _ W g o L2 B2 hn hB2 fun W2 g2 o2 hb hn2 => expr_ident lA true false W2 g2 o2 L2 B2 hn2 (Nat.le_trans hB2 hb.size) (by decide) name_a (fun w => reserved_RA w))
  have e : chkV awN true = 0 := by rw [chkV, awN_deep]; rfl
  rw [e] at h
  exact h
theorem aw_check2 (v : Value) (w : World) (L B : Nat) (hv : NdV w L B (idN lLet) v) (hB : B ≤ w.heap.size) : Calls Tryz.prog 19 #[v] w fun e w' => e = .returned (.int .i64 800) ∧ Below w.heap.size w w' := by
  have h := Check_any (idN lLet) v w L B false hv hB (by rw [idN_size]; decide) (by decide) (fun _ W g o L2 B2 hn hB2 _ => expr_ident lLet true true W g o L2 B2 hn hB2 (by decide) name_let (fun w => reserved_RLet w))
  have e : chkV (idN lLet) false = 800 := by rw [chkV, idN_deep]; rfl
  rw [e] at h
  exact h
theorem aw_bare : bareT awN = idN lA := by
  rw [bareT, awN_deep, if_pos (by decide), bareNd_eq, if_pos (show awN.kind = 26 from rfl)]
  show bareFst [idN lA] = _
  rw [bareFst, bareNd_eq, if_neg (by decide)]
  rfl
theorem aw_same1 : sameNd (idN lA) (idN lA) = true := sameNd_refl _
theorem aw_same2 : sameNd awN (idN lA) = false := by rw [sameNd_eq]; rfl
theorem aw_size (v : Value) (w : World) (L B : Nat) (hv : NdV w L B awN v) (hB : B ≤ w.heap.size) : Calls Tryz.prog 22 #[v] w fun e w' => e = .returned (.int .i64 2) ∧ Below w.heap.size w w' := by
  have h := size_any awN v w L B hv hB (by rw [awN_size]; decide)
  have e : msS awN = 2 := by rw [msS, awN_deep, awN_size]; rfl
  rw [e] at h
  exact h
theorem aw_depth (v : Value) (w : World) (L B : Nat) (hv : NdV w L B awN v) (hB : B ≤ w.heap.size) : Calls Tryz.prog 21 #[v] w fun e w' => e = .returned (.int .i64 2) ∧ Below w.heap.size w w' := by
  have h := depth_any awN v w L B hv hB (by rw [awN_size]; decide)
  have e : msD awN = 2 := by rw [msD, awN_deep]; rfl
  rw [e] at h
  exact h
theorem aw_bareC (v : Value) (w : World) (L B : Nat) (hv : NdV w L B awN v) (hB : B ≤ w.heap.size) : Calls Tryz.prog 14 #[v] w fun e w' => ∃ u, e = .returned u ∧ NdV w' 0 w'.heap.size (idN lA) u ∧ Below w.heap.size w w' := by
  have h := Bare_any awN v w L B hv hB (by rw [awN_size]; decide)
  rw [aw_bare] at h
  exact h.mono fun e w' ⟨u, he, hu, hb⟩ => ⟨u, he, by
    obtain ⟨b, cap, h1, h2, h3⟩ := hu.v
    exact ⟨b, cap, h1, h2, RowP_keep (Nat.zero_le _) (Nat.le_refl _) (fun _ _ _ => rfl) h3⟩, hb⟩
theorem aw_sameT (v u : Value) (w : World) (L B : Nat) (hv : NdV w L B (idN lA) v) (hu : NdV w L B (idN lA) u) (hB : B ≤ w.heap.size) : Calls Tryz.prog 9 #[v, u] w fun e w' => e = .returned (.bool true) ∧ Below w.heap.size w w' := by
  have h := same_any (idN lA) (idN lA) v u w L B hv hu hB (by rw [idN_size]; decide)
  rw [aw_same1] at h
  exact h
theorem aw_sameF (v : Value) (w : World) (L B : Nat) (hv : NdV w L B awN v) (hB : B ≤ w.heap.size) : Calls Tryz.prog 9 #[v, .agg #[.int .i64 1, .string lA, .slice none 0 0, .int .i64 0, .int .i64 0]] w fun e w' => e = .returned (.bool false) ∧ Below w.heap.size w w' := by
  have h := same_any awN (idN lA) v _ w L B hv (id_v w L B lA) hB (by rw [awN_size]; decide)
  rw [aw_same2] at h
  exact h
set_option maxRecDepth 20000 in
set_option maxHeartbeats 4000000 in
theorem awake_any (w : World) : Calls Tryz.prog 13 #[] w fun e w' => e = .returned (.bool true) ∧ Below w.heap.size w w' := by
  go_enter Tryz.func13, Tryz.ntmps13
  go_upto_region 2 with (go_at_call 18; refine (lident_any _ _).mono ?_; rintro e w1 ⟨rfl, hb1⟩)
  have hb3 := (hb1.alloc hb1.size (.cells #[.int .i64 1, .string ⟨#[97]⟩, .slice none 0 0, .int .i64 0, .int .i64 0] 24)).alloc (by have := hb1.size; simp <;> omega) (.cells #[.int .i64 26, .string ⟨#[]⟩, .slice (some ⟨w1.heap.size, 0, none⟩) 1 1, .int .i64 3, .int .i64 0] 24)
  have hx := heap_alloc_new (w1.alloc (.cells #[.int .i64 1, .string ⟨#[97]⟩, .slice none 0 0, .int .i64 0, .int .i64 0] 24)) (.cells #[.int .i64 26, .string ⟨#[]⟩, .slice (some ⟨w1.heap.size, 0, none⟩) 1 1, .int .i64 3, .int .i64 0] 24)
  rw [World.size_alloc] at hx
  have hk : ((w1.alloc (.cells #[.int .i64 1, .string ⟨#[97]⟩, .slice none 0 0, .int .i64 0, .int .i64 0] 24)).alloc (.cells #[.int .i64 26, .string ⟨#[]⟩, .slice (some ⟨w1.heap.size, 0, none⟩) 1 1, .int .i64 3, .int .i64 0] 24)).heap[w1.heap.size]? = some (.cells #[.int .i64 1, .string ⟨#[97]⟩, .slice none 0 0, .int .i64 0, .int .i64 0] 24 (0, 0)) := (Below.heap_alloc _ _ _ (by simp)).trans (heap_alloc_new _ _)
  generalize World.alloc (World.alloc w1 _) _ = w3 at *
  generalize w1.heap.size + 1 = p at *
  generalize w1.heap.size = q at *
  have hX : NdBox w3 p 26 ⟨#[]⟩ (some ⟨q, 0, none⟩) 1 1 3 0 := hx
  have hK : NdBox w3 q 1 ⟨#[97]⟩ none 0 0 0 0 := hk
  have hrow : RowP w3 0 w3.heap.size [idN lA] (some ⟨q, 0, none⟩) 0 := by
    refine RowP_of fun j hj => ⟨q, 0, rfl, ?_⟩
    have : j = 0 := by simpa using hj
    subst this
    obtain ⟨k0, k1, k2, k3, k4, _⟩ := NdBox.facts hK
    rw [NdC_eq]
    exact ⟨none, 0, Nat.zero_le _, hK.lt, k0, k1, k2, k3, k4, Nat.le_refl _, by show RowP _ _ _ [] _ _; rw [RowP]; trivial⟩
  have HV := Lib.hid (fun (W : World) (hb : Below w3.heap.size w3 W) => (show NdV W 0 w3.heap.size awN (.agg #[.int .i64 26, .string ⟨#[]⟩, .slice (some ⟨q, 0, none⟩) 1 1, .int .i64 3, .int .i64 0]) from ⟨_, _, rfl, Nat.le_refl _, RowP_bel hrow hb⟩))
  have HB := Lib.hid hb3
  have HX := Lib.hid hX
  have hpl := hX.lt
  have H1 := Lib.hid (aw_check1 _ w3 0 _ (HV.out w3 (Below.refl _ _)) (Nat.le_refl _))
  obtain ⟨d0, d1, d2, d3, d4, g0, g1, g2, g3, g4⟩ := NdBox.facts hX
  clear hb1 hb3 hx hk hK hX hrow
  go_upto_region 3 with (go_at_call 19; refine H1.out.mono ?_; rintro e w4 ⟨rfl, hb4⟩)
  clear d0 d1 d2 d3 d4 g0 g1 g2 g3 g4 H1
  go_wp2_with fail
  refine (lident_any _ _).mono ?_
  rintro e w5 ⟨rfl, hb5⟩
  have hb45 := bel_next hb4 hb5
  have H2 := Lib.hid (aw_check2 _ w5 0 w5.heap.size (id_v w5 0 _ lLet) (Nat.le_refl _))
  clear hb4 hb5
  go_upto_region 4 with (go_at_call 19; refine H2.out.mono ?_; rintro e w6 ⟨rfl, hb6⟩)
  have hb := bel_next hb45 hb6
  clear hb45 hb6 H2
  replace hb := Below.drew hb
  have HSz := Lib.hid (fun (W : World) (hb : Below w3.heap.size w3 W) => aw_size _ W 0 _ (HV.out W hb) hb.size)
  have HDp := Lib.hid (fun (W : World) (hb : Below w3.heap.size w3 W) => aw_depth _ W 0 _ (HV.out W hb) hb.size)
  have HBa := Lib.hid (fun (W : World) (hb : Below w3.heap.size w3 W) => aw_bareC _ W 0 _ (HV.out W hb) hb.size)
  have HS1 := Lib.hid (fun (W : World) (v u : Value) (B : Nat) (hB : B ≤ W.heap.size) (h : NdV W 0 B (idN lA) v) (k : NdV W 0 B (idN lA) u) => aw_sameT v u W 0 B h k hB)
  have HS2 := Lib.hid (fun (W : World) (hb : Below w3.heap.size w3 W) => aw_sameF _ W 0 _ (HV.out W hb) hb.size)
  obtain ⟨d0, d1, d2, d3, d4, _⟩ := NdBox.facts (HX.out.bel hb hpl)
  have hpw : p < w6.drew.heap.size := Nat.lt_of_lt_of_le hpl hb.size
  go_region_with (first
    | (go_at_call 20; refine (num_any _ _).mono ?_; rintro e w' ⟨rfl, rfl⟩)
    | (go_at_call 22; (with_reducible refine (HSz.out _ hb).mono ?_); rintro e w2 ⟨rfl, hb2⟩; replace hb := bel_next hb hb2; clear hb2 d0 d1 d2 d3 d4 hpw; obtain ⟨d0, d1, d2, d3, d4, _⟩ := NdBox.facts (HX.out.bel hb hpl); have hpw := Nat.lt_of_lt_of_le hpl hb.size)
    | (go_at_call 21; (with_reducible refine (HDp.out _ hb).mono ?_); rintro e w2 ⟨rfl, hb2⟩; replace hb := bel_next hb hb2; clear hb2 d0 d1 d2 d3 d4 hpw; obtain ⟨d0, d1, d2, d3, d4, _⟩ := NdBox.facts (HX.out.bel hb hpl); have hpw := Nat.lt_of_lt_of_le hpl hb.size)
    | (go_at_call 14; (with_reducible refine (HBa.out _ hb).mono ?_); rintro e w2 ⟨u, rfl, hu, hb2⟩; have HU := Lib.hid hu; replace hb := bel_next hb hb2; clear hu hb2 d0 d1 d2 d3 d4 hpw; obtain ⟨d0, d1, d2, d3, d4, _⟩ := NdBox.facts (HX.out.bel hb hpl); have hpw := Nat.lt_of_lt_of_le hpl hb.size)
    | (go_at_call 18; (with_reducible refine (lident_any _ _).mono ?_); rintro e w2 ⟨rfl, hbI⟩; replace hb := bel_next hb hbI; clear d0 d1 d2 d3 d4 hpw; obtain ⟨d0, d1, d2, d3, d4, _⟩ := NdBox.facts (HX.out.bel hb hpl); have hpw := Nat.lt_of_lt_of_le hpl hb.size)
    | (go_at_call 9; (refine (HS1.out _ _ _ _ hbI.size (NdV_bel HU.out hbI) (id_v _ _ _ lA)).mono ?_); rintro e w2 ⟨rfl, hb2⟩; replace hb := bel_next hb hb2; clear HU hbI hb2 d0 d1 d2 d3 d4 hpw; obtain ⟨d0, d1, d2, d3, d4, _⟩ := NdBox.facts (HX.out.bel hb hpl); have hpw := Nat.lt_of_lt_of_le hpl hb.size)
    | (go_at_call 9; (refine (HS2.out _ hb).mono ?_); rintro e w2 ⟨rfl, hb2⟩; replace hb := bel_next hb hb2; clear hb2 d0 d1 d2 d3 d4 hpw))
  all_goals go_wp2_with fail
  all_goals go_ret
  all_goals exact ⟨rfl, HB.out.trans (hb.mono HB.out.size)⟩
end Go.Proofs.YteejjkfmmhegmaaGreatDoor
