/- AstDepths' own function: it answers true. No condition. -/
import Derived.Test.YteejjkfmmhegmaaGreatDoorSa
namespace Go.Proofs.YteejjkfmmhegmaaGreatDoor
open Go.RowKit

/-- an Ident in j Parens. -/
def parN : Nat → Nd
  | 0 => idN lA
  | j + 1 => .mk 26 ⟨#[]⟩ [parN j] 0 0
theorem parN_size : ∀ j, ndSize (parN j) = j + 1
  | 0 => idN_size _
  | j + 1 => by rw [parN, ndSize, ndSizes, ndSizes, parN_size j]; omega
theorem parN_deep : ∀ j, ndDeep (parN j) = j + 1
  | 0 => idN_deep _
  | j + 1 => by rw [parN, ndDeep, ndDeeps, ndDeeps, parN_deep j]; omega
theorem parN_kind : ∀ j, (parN j).kind ≠ 86
  | 0 => by decide
  | j + 1 => by
    rw [parN]
    show (26 : Int) ≠ 86
    decide
theorem parN_bare : ∀ j, bareNd (parN j) = idN lA
  | 0 => by rw [parN, bareNd_eq, if_neg (by decide)]; rfl
  | j + 1 => by
    rw [parN, bareNd]
    show bareFst [parN j] = _
    rw [bareFst, parN_bare j]
theorem expr_par : ∀ (j : Nat) (W : World) (g o L B : Nat), NdC W L B (parN j) g o → B ≤ W.heap.size →
    Calls Tryz.prog 30 #[.pointer (some ⟨g, o, none⟩)] W fun e w' => e = .returned (.bool true) ∧ Below W.heap.size W w'
  | 0, W, g, o, L, B, hn, hB => expr_ident lA true false W g o L B hn hB (by decide) name_a (fun w => reserved_RA w)
  | j + 1, W, g, o, L, B, hn, hB => expr_paren (parN j) 0 0 true W g o L B hn hB fun W2 g2 o2 hb hn2 => expr_par j W2 g2 o2 L B hn2 (Nat.le_trans hB hb.size)
theorem par_check (j : Nat) (v : Value) (W : World) (h : IsN W (parN j) v) (hs : j ≤ 4000000) :
    Calls Tryz.prog 19 #[v] W fun e w' => e = .returned (.int .i64 (if j + 1 ≤ 8000 then 0 else 801)) ∧ Below W.heap.size W w' := by
  have hc := Check_any (parN j) v W 0 _ true h (Nat.le_refl _) (by rw [parN_size]; omega) (parN_kind j) (fun _ W2 g o L2 B2 hn hB2 _ => expr_par j W2 g o L2 B2 hn hB2)
  rw [chkV, parN_deep] at hc
  exact hc
theorem par_depth (j : Nat) (v : Value) (W : World) (h : IsN W (parN j) v) (hs : j ≤ 4000000) :
    Calls Tryz.prog 21 #[v] W fun e w' => e = .returned (.int .i64 (if j + 1 ≤ 8000 then ((j + 1 : Nat) : Int) else 0)) ∧ Below W.heap.size W w' := by
  have hc := depth_any (parN j) v W 0 _ h (Nat.le_refl _) (by rw [parN_size]; omega)
  rw [msD, parN_deep] at hc
  exact hc
theorem par_size (j : Nat) (v : Value) (W : World) (h : IsN W (parN j) v) (hs : j ≤ 4000000) :
    Calls Tryz.prog 22 #[v] W fun e w' => e = .returned (.int .i64 (if j + 1 ≤ 8000 then ((j + 1 : Nat) : Int) else 0)) ∧ Below W.heap.size W w' := by
  have hc := size_any (parN j) v W 0 _ h (Nat.le_refl _) (by rw [parN_size]; omega)
  rw [msS, parN_deep, parN_size] at hc
  exact hc
theorem par_bare (j : Nat) (v : Value) (W : World) (h : IsN W (parN j) v) (hs : j ≤ 4000000) :
    Calls Tryz.prog 14 #[v] W fun e w' => ∃ u, e = .returned u ∧ IsN w' (if j + 1 ≤ 8000 then idN lA else .zero) u ∧ Below W.heap.size W w' := by
  have hc := Bare_any (parN j) v W 0 _ h (Nat.le_refl _) (by rw [parN_size]; omega)
  rw [bareT, parN_deep, parN_bare] at hc
  exact hc.mono fun e w' ⟨u, he, hu, hb⟩ => ⟨u, he, hu.v.wide (Nat.le_refl _), hb⟩
/-- a Paren more: its kid in a block of its own. -/
theorem par_more {W : World} {r : Nat} {n : Nd} {b : Option Addr} {cap : Nat} (hn : RowP W (r + 1) W.heap.size n.kids b 0) (hc : n.kids.length ≤ cap) (hr : NdBox W r n.kind n.text b n.kids.length cap n.from' n.till) :
    NdBoxV ((lay5 W r 26 ⟨#[]⟩ (.slice (some ⟨W.heap.size, 0, none⟩) 1 1) 0 0).alloc (.cells #[.int .i64 n.kind, .string n.text, .slice b n.kids.length cap, .int .i64 n.from', .int .i64 n.till] 24)) r 26 ⟨#[]⟩ (.slice (some ⟨W.heap.size, 0, none⟩) 1 1) 0 0 ∧ RowP ((lay5 W r 26 ⟨#[]⟩ (.slice (some ⟨W.heap.size, 0, none⟩) 1 1) 0 0).alloc (.cells #[.int .i64 n.kind, .string n.text, .slice b n.kids.length cap, .int .i64 n.from', .int .i64 n.till] 24)) (r + 1) ((lay5 W r 26 ⟨#[]⟩ (.slice (some ⟨W.heap.size, 0, none⟩) 1 1) 0 0).alloc (.cells #[.int .i64 n.kind, .string n.text, .slice b n.kids.length cap, .int .i64 n.from', .int .i64 n.till] 24)).heap.size [n] (some ⟨W.heap.size, 0, none⟩) 0 := by
  have hrl := hr.lt
  have hv : NdBoxV W r n.kind n.text (.slice b n.kids.length cap) n.from' n.till := hr
  have hsz : (lay5 W r 26 ⟨#[]⟩ (.slice (some ⟨W.heap.size, 0, none⟩) 1 1) 0 0).heap.size = W.heap.size := lay5_size _ _ _ _ _ _ _
  refine ⟨(hv.lay (k := 26) (t := ⟨#[]⟩) (v := .slice (some ⟨W.heap.size, 0, none⟩) 1 1) (f := 0) (u := 0)).bel (alloc_bel _ _), RowP_of fun j hj => ⟨W.heap.size, 0, rfl, ?_⟩⟩
  have : j = 0 := by simpa using hj
  subst this
  have hq := heap_alloc_new (lay5 W r 26 ⟨#[]⟩ (.slice (some ⟨W.heap.size, 0, none⟩) 1 1) 0 0) (.cells #[.int .i64 n.kind, .string n.text, .slice b n.kids.length cap, .int .i64 n.from', .int .i64 n.till] 24)
  rw [hsz] at hq
  have hq2 : NdBox ((lay5 W r 26 ⟨#[]⟩ (.slice (some ⟨W.heap.size, 0, none⟩) 1 1) 0 0).alloc (.cells #[.int .i64 n.kind, .string n.text, .slice b n.kids.length cap, .int .i64 n.from', .int .i64 n.till] 24)) W.heap.size n.kind n.text b n.kids.length cap n.from' n.till := hq
  obtain ⟨d0, d1, d2, d3, d4, _⟩ := NdBox.facts hq2
  rw [NdC_eq, World.size_alloc, hsz]
  exact ⟨b, cap, by omega, by omega, d0, d1, d2, d3, d4, hc, RowP_keep (Nat.le_refl _) (by omega) (fun k h1 h2 => (Below.heap_alloc _ _ _ (by rw [hsz]; exact h2)).trans (lay5_block _ _ _ _ _ _ _ _ (by omega))) hn⟩
/-- the loop: i - 1 Parens are put around. -/
def DpS (w0 : World) (r : Nat) (i : Nat) (W : World) : Prop := ∃ (b : Option Addr) (cap : Nat), Bx W r (parN (i - 1)) b cap ∧ (parN (i - 1)).kids.length ≤ cap ∧ RowP W (r + 1) W.heap.size (parN (i - 1)).kids b 0 ∧ Below w0.heap.size w0 W ∧ w0.heap.size ≤ r
theorem DpS.more {w W : World} {r j : Nat} {b : Option Addr} {cap : Nat} (hx : Bx W r (parN (j - 1)) b cap) (hc : (parN (j - 1)).kids.length ≤ cap) (hrow : RowP W (r + 1) W.heap.size (parN (j - 1)).kids b 0) (hbel : Below w.heap.size w W) (hwr : w.heap.size ≤ r) (hj : 1 ≤ j) :
    DpS w r (j + 1) ((lay5 W r 26 ⟨#[]⟩ (.slice (some ⟨W.heap.size, 0, none⟩) 1 1) 0 0).alloc (.cells #[.int .i64 (parN (j - 1)).kind, .string (parN (j - 1)).text, .slice b (parN (j - 1)).kids.length cap, .int .i64 (parN (j - 1)).from', .int .i64 (parN (j - 1)).till] 24)) := by
  obtain ⟨h1, h2⟩ := par_more hrow hc hx
  have e : parN (j + 1 - 1) = .mk 26 ⟨#[]⟩ [parN (j - 1)] 0 0 := by
    obtain ⟨i, rfl⟩ : ∃ i, j = i + 1 := ⟨j - 1, by omega⟩
    rw [Nat.add_sub_cancel, Nat.add_sub_cancel, parN]
  refine ⟨some ⟨W.heap.size, 0, none⟩, 1, ?_, ?_, ?_, (lay5_bel hbel hwr _ _ _ _ _).alloc (by rw [lay5_size]; exact hbel.size) _, hwr⟩
  · rw [e]; exact h1
  · rw [e]; exact Nat.le_refl _
  · rw [e]; exact h2
theorem DpS.isN {W : World} {r k : Nat} {b : Option Addr} {cap : Nat} (hc : (parN k).kids.length ≤ cap) (hrow : RowP W (r + 1) W.heap.size (parN k).kids b 0) : IsN W (parN k) (.agg #[.int .i64 (parN k).kind, .string (parN k).text, .slice b (parN k).kids.length cap, .int .i64 (parN k).from', .int .i64 (parN k).till]) :=
  ⟨b, cap, rfl, hc, RowP_keep (Nat.zero_le _) (Nat.le_refl _) (fun _ _ _ => rfl) hrow⟩
theorem zero_v (w : World) : IsN w .zero (.agg #[.int .i64 0, .string ⟨#[]⟩, .slice none 0 0, .int .i64 0, .int .i64 0]) :=
  ⟨none, 0, rfl, Nat.le_refl _, by show RowP _ _ _ [] _ _; rw [RowP]; trivial⟩
theorem and15 (q : Int) : ∃ n : Nat, n < 16 ∧ bits .and .i64 q 15 = (n : Int) := by
  refine ⟨(BitVec.ofInt 64 q &&& BitVec.ofInt 64 15).toNat, ?_, ?_⟩
  · rw [BitVec.toNat_and]
    exact Nat.lt_of_le_of_lt Nat.and_le_right (by decide)
  · show IntKind.i64.wrap ((BitVec.ofInt 64 q &&& BitVec.ofInt 64 15).toNat : Int) = _
    refine IntWalk.i64_in _ ?_
    have h : (BitVec.ofInt 64 q &&& BitVec.ofInt 64 15).toNat < 16 := by
      rw [BitVec.toNat_and]
      exact Nat.lt_of_le_of_lt Nat.and_le_right (by decide)
    omega
set_option maxRecDepth 20000 in
set_option maxHeartbeats 4000000 in
theorem depths_any (many : Int) (w : World) : Calls Tryz.prog 5 #[.int .i64 many] w fun e w' => e = .returned (.bool true) ∧ Below w.heap.size w w' := by
  obtain ⟨m, hm, hbits⟩ := and15 many
  have hwr : wrap64 (7992 + bits .and .i64 many 15) = ((m + 7992 : Nat) : Int) := by rw [hbits, IntWalk.wrap64_in _ (by omega)]; omega
  have HW := Lib.hid hwr
  clear hwr hbits
  go_enter Tryz.func5, Tryz.ntmps5
  go_upto_region 4 with (go_at_call 13; refine (awake_any _).mono ?_; rintro e w1 ⟨rfl, hb1⟩)
  rw [HW.out]
  generalize hk : m + 7992 = k at *
  have hk2 : k ≤ 9000 := by omega
  have hk1 : 7000 ≤ k := by omega
  clear hk hm HW
  go_wp2_with fail
  refine (lident_any _ _).mono ?_
  rintro e w2 ⟨rfl, hb2⟩
  have hb3 := bel_next hb1 hb2
  clear hb1 hb2
  go_upto_region 5 with fail
  have HS := Lib.hid (show DpS w w2.heap.size 1 (w2.alloc (.cells #[.int .i64 1, .string ⟨#[97]⟩, .slice none 0 0, .int .i64 0, .int .i64 0] 24)) from
    ⟨none, 0, heap_alloc_new _ _, Nat.le_refl _, by show RowP _ _ _ [] _ _; rw [RowP]; trivial, hb3.alloc hb3.size _, hb3.size⟩)
  generalize World.alloc w2 _ = w3 at *
  generalize w2.heap.size = r at *
  clear hb3
  go_wp2_with fail
  go_loopw [5] (fun i wr => ∃ j : Nat, 1 ≤ j ∧ j ≤ k ∧ i = .int .i64 j ∧ DpS w r j wr) (fun i _ => k - (intOf i).toNat)
  case atStart => exact ⟨1, Nat.le_refl _, by omega, rfl, HS.out⟩
  case round =>
    clear HS
    obtain ⟨j, hj1, hjk, rfl, hst⟩ := hrel
    have HST := Lib.hid hst
    obtain ⟨b, cap, hbx, hcap, hrow, hbel, hwr⟩ := hst
    obtain ⟨d0, d1, d2, d3, d4, f0, f1, f2, f3, f4⟩ := NdBox.facts hbx
    have hrl := hbx.lt
    by_cases hlt : j < k
    · have HM := Lib.hid (DpS.more hbx hcap hrow hbel hwr hj1)
      generalize parN (j - 1) = x at *
      clear hrow hbel hcap hbx HST
      go_wp2_with fail
      go_roundw
      case rel => exact ⟨j + 1, by omega, by omega, by go_num, HM.out⟩
      case measure => simp [intOf]; omega
    · obtain rfl : j = k := by omega
      have HX := Lib.hid hbx
      have hN := DpS.isN (W := wr) (r := r) (k := j - 1) (b := b) (cap := cap) hcap hrow
      have HN := Lib.hid (fun (W : World) (hb : Below wr.heap.size wr W) => IsN.bel hN hb)
      have hee : j - 1 + 1 = j := by omega
      have HCK := Lib.hid (fun (W : World) (hb : Below wr.heap.size wr W) => par_check (j - 1) _ W (HN.out W hb) (by omega))
      have HDE := Lib.hid (fun (W : World) (hb : Below wr.heap.size wr W) => par_depth (j - 1) _ W (HN.out W hb) (by omega))
      have HSI := Lib.hid (fun (W : World) (hb : Below wr.heap.size wr W) => par_size (j - 1) _ W (HN.out W hb) (by omega))
      have HBA := Lib.hid (fun (W : World) (hb : Below wr.heap.size wr W) => par_bare (j - 1) _ W (HN.out W hb) (by omega))
      rw [hee] at HCK HDE HSI HBA
      have HBL := Lib.hid hbel
      generalize parN (j - 1) = x at *
      have hb : Below wr.heap.size wr wr := Below.refl _ _
      by_cases hd : j ≤ 8000
      · simp only [if_pos hd] at HCK HDE HSI HBA
        have htt : decide (((j : Nat) : Int) ≤ 8000) = true := by rw [decide_eq_true_eq]; omega
        have HSM := Lib.hid (fun (W : World) (v u : Value) (h : IsN W (idN lA) v) (k : IsN W (idN lA) u) => by have h2 := isame (idN lA) (idN lA) v u W h k (by rw [idN_size]; decide); rw [aw_same1] at h2; exact h2)
        clear hd hrow hcap hbx hbel hN hee HST hjk hk1 hlt
        go_wp2_with fail
        refine (HCK.out _ hb).mono ?_
        rintro e w4 ⟨rfl, hb4⟩
        replace hb := bel_next hb hb4
        clear hb4 d0 d1 d2 d3 d4
        obtain ⟨d0, d1, d2, d3, d4⟩ := HX.out.f hb
        go_wp2_with fail
        refine (num_any _ _).mono ?_
        rintro e w4 ⟨rfl, rfl⟩
        go_wp2_with fail
        refine (HDE.out _ hb).mono ?_
        rintro e w4 ⟨rfl, hb4⟩
        replace hb := bel_next hb hb4
        clear hb4 d0 d1 d2 d3 d4
        obtain ⟨d0, d1, d2, d3, d4⟩ := HX.out.f hb
        go_wp2_with fail
        refine (HSI.out _ hb).mono ?_
        rintro e w4 ⟨rfl, hb4⟩
        replace hb := bel_next hb hb4
        clear hb4 d0 d1 d2 d3 d4
        obtain ⟨d0, d1, d2, d3, d4⟩ := HX.out.f hb
        go_wp2_with fail
        refine (HBA.out _ hb).mono ?_
        rintro e w5 ⟨u, rfl, hu, hb5⟩
        have HU := Lib.hid hu
        replace hb := bel_next hb hb5
        clear hb5 hu d0 d1 d2 d3 d4
        obtain ⟨d0, d1, d2, d3, d4⟩ := HX.out.f hb
        go_wp2_with fail
        refine (lident_any _ _).mono ?_
        rintro e w6 ⟨rfl, hb6⟩
        have HU2 := Lib.hid (HU.out.bel hb6)
        replace hb := bel_next hb hb6
        clear hb6
        go_wp2_with fail
        refine (HSM.out _ _ _ HU2.out (id_v _ 0 _ lA)).mono ?_
        rintro e w7 ⟨rfl, hb7⟩
        replace hb := bel_next hb hb7
        clear hb7
        go_wp2_with fail
        go_ret
        exact ⟨rfl, bel_next HBL.out hb⟩
      · simp only [if_neg hd] at HCK HDE HSI HBA
        have htt : decide (((j : Nat) : Int) ≤ 8000) = false := by rw [decide_eq_false_iff_not]; omega
        have HSM := Lib.hid (fun (W : World) (v u : Value) (h : IsN W .zero v) (k : IsN W .zero u) => by have h2 := isame .zero .zero v u W h k (by rw [show ndSize .zero = 1 by rw [Nd.zero, ndSize, ndSizes]]; decide); rw [sameNd_refl] at h2; exact h2)
        clear hd hrow hcap hbx hbel hN hee HST hjk hk1 hlt
        go_wp2_with fail
        refine (HCK.out _ hb).mono ?_
        rintro e w4 ⟨rfl, hb4⟩
        replace hb := bel_next hb hb4
        clear hb4 d0 d1 d2 d3 d4
        obtain ⟨d0, d1, d2, d3, d4⟩ := HX.out.f hb
        go_wp2_with fail
        refine (num_any _ _).mono ?_
        rintro e w4 ⟨rfl, rfl⟩
        go_wp2_with fail
        refine (HDE.out _ hb).mono ?_
        rintro e w4 ⟨rfl, hb4⟩
        replace hb := bel_next hb hb4
        clear hb4 d0 d1 d2 d3 d4
        obtain ⟨d0, d1, d2, d3, d4⟩ := HX.out.f hb
        go_wp2_with fail
        refine (HSI.out _ hb).mono ?_
        rintro e w4 ⟨rfl, hb4⟩
        replace hb := bel_next hb hb4
        clear hb4 d0 d1 d2 d3 d4
        obtain ⟨d0, d1, d2, d3, d4⟩ := HX.out.f hb
        go_wp2_with fail
        refine (HBA.out _ hb).mono ?_
        rintro e w5 ⟨u, rfl, hu, hb5⟩
        have HU := Lib.hid hu
        replace hb := bel_next hb hb5
        clear hb5 hu d0 d1 d2 d3 d4
        obtain ⟨d0, d1, d2, d3, d4⟩ := HX.out.f hb
        go_wp2_with fail
        refine (HSM.out _ _ _ HU.out (zero_v _)).mono ?_
        rintro e w7 ⟨rfl, hb7⟩
        replace hb := bel_next hb hb7
        clear hb7
        go_wp2_with fail
        go_ret
        exact ⟨rfl, bel_next HBL.out hb⟩
end Go.Proofs.YteejjkfmmhegmaaGreatDoor
