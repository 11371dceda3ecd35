/- NumOthers: two numbers have one form just if they are one number of one kind: the plain law by a table that the kernel reckons, and the two closures. Conditions: numbers from 1 to 64. -/
import Derived.Test.YthnchejhcmpipaaDoorRun
namespace Go.Proofs.YthnchejhcmpipaaDoor
open Go.RowKit

def formL (p i : Nat) : List UInt8 := if i = 0 then digL 10 p else if i = 1 then digL 10 p ++ [46, 48] else if i = 2 then digL 10 p ++ [48, 101, 45, 49] else if i = 3 then [48, 120] ++ digL 16 p else digL 10 p ++ [110]
def formT : List (List UInt8) := [
  [49, 101, 48], [48, 120, 49], [49, 101, 48, 110],
  [50, 101, 48], [48, 120, 50], [50, 101, 48, 110],
  [51, 101, 48], [48, 120, 51], [51, 101, 48, 110],
  [52, 101, 48], [48, 120, 52], [52, 101, 48, 110],
  [53, 101, 48], [48, 120, 53], [53, 101, 48, 110],
  [54, 101, 48], [48, 120, 54], [54, 101, 48, 110],
  [55, 101, 48], [48, 120, 55], [55, 101, 48, 110],
  [56, 101, 48], [48, 120, 56], [56, 101, 48, 110],
  [57, 101, 48], [48, 120, 57], [57, 101, 48, 110],
  [49, 101, 49], [48, 120, 97], [49, 101, 49, 110],
  [49, 49, 101, 48], [48, 120, 98], [49, 49, 101, 48, 110],
  [49, 50, 101, 48], [48, 120, 99], [49, 50, 101, 48, 110],
  [49, 51, 101, 48], [48, 120, 100], [49, 51, 101, 48, 110],
  [49, 52, 101, 48], [48, 120, 101], [49, 52, 101, 48, 110],
  [49, 53, 101, 48], [48, 120, 102], [49, 53, 101, 48, 110],
  [49, 54, 101, 48], [48, 120, 49, 48], [49, 54, 101, 48, 110],
  [49, 55, 101, 48], [48, 120, 49, 49], [49, 55, 101, 48, 110],
  [49, 56, 101, 48], [48, 120, 49, 50], [49, 56, 101, 48, 110],
  [49, 57, 101, 48], [48, 120, 49, 51], [49, 57, 101, 48, 110],
  [50, 101, 49], [48, 120, 49, 52], [50, 101, 49, 110],
  [50, 49, 101, 48], [48, 120, 49, 53], [50, 49, 101, 48, 110],
  [50, 50, 101, 48], [48, 120, 49, 54], [50, 50, 101, 48, 110],
  [50, 51, 101, 48], [48, 120, 49, 55], [50, 51, 101, 48, 110],
  [50, 52, 101, 48], [48, 120, 49, 56], [50, 52, 101, 48, 110],
  [50, 53, 101, 48], [48, 120, 49, 57], [50, 53, 101, 48, 110],
  [50, 54, 101, 48], [48, 120, 49, 97], [50, 54, 101, 48, 110],
  [50, 55, 101, 48], [48, 120, 49, 98], [50, 55, 101, 48, 110],
  [50, 56, 101, 48], [48, 120, 49, 99], [50, 56, 101, 48, 110],
  [50, 57, 101, 48], [48, 120, 49, 100], [50, 57, 101, 48, 110],
  [51, 101, 49], [48, 120, 49, 101], [51, 101, 49, 110],
  [51, 49, 101, 48], [48, 120, 49, 102], [51, 49, 101, 48, 110],
  [51, 50, 101, 48], [48, 120, 50, 48], [51, 50, 101, 48, 110],
  [51, 51, 101, 48], [48, 120, 50, 49], [51, 51, 101, 48, 110],
  [51, 52, 101, 48], [48, 120, 50, 50], [51, 52, 101, 48, 110],
  [51, 53, 101, 48], [48, 120, 50, 51], [51, 53, 101, 48, 110],
  [51, 54, 101, 48], [48, 120, 50, 52], [51, 54, 101, 48, 110],
  [51, 55, 101, 48], [48, 120, 50, 53], [51, 55, 101, 48, 110],
  [51, 56, 101, 48], [48, 120, 50, 54], [51, 56, 101, 48, 110],
  [51, 57, 101, 48], [48, 120, 50, 55], [51, 57, 101, 48, 110],
  [52, 101, 49], [48, 120, 50, 56], [52, 101, 49, 110],
  [52, 49, 101, 48], [48, 120, 50, 57], [52, 49, 101, 48, 110],
  [52, 50, 101, 48], [48, 120, 50, 97], [52, 50, 101, 48, 110],
  [52, 51, 101, 48], [48, 120, 50, 98], [52, 51, 101, 48, 110],
  [52, 52, 101, 48], [48, 120, 50, 99], [52, 52, 101, 48, 110],
  [52, 53, 101, 48], [48, 120, 50, 100], [52, 53, 101, 48, 110],
  [52, 54, 101, 48], [48, 120, 50, 101], [52, 54, 101, 48, 110],
  [52, 55, 101, 48], [48, 120, 50, 102], [52, 55, 101, 48, 110],
  [52, 56, 101, 48], [48, 120, 51, 48], [52, 56, 101, 48, 110],
  [52, 57, 101, 48], [48, 120, 51, 49], [52, 57, 101, 48, 110],
  [53, 101, 49], [48, 120, 51, 50], [53, 101, 49, 110],
  [53, 49, 101, 48], [48, 120, 51, 51], [53, 49, 101, 48, 110],
  [53, 50, 101, 48], [48, 120, 51, 52], [53, 50, 101, 48, 110],
  [53, 51, 101, 48], [48, 120, 51, 53], [53, 51, 101, 48, 110],
  [53, 52, 101, 48], [48, 120, 51, 54], [53, 52, 101, 48, 110],
  [53, 53, 101, 48], [48, 120, 51, 55], [53, 53, 101, 48, 110],
  [53, 54, 101, 48], [48, 120, 51, 56], [53, 54, 101, 48, 110],
  [53, 55, 101, 48], [48, 120, 51, 57], [53, 55, 101, 48, 110],
  [53, 56, 101, 48], [48, 120, 51, 97], [53, 56, 101, 48, 110],
  [53, 57, 101, 48], [48, 120, 51, 98], [53, 57, 101, 48, 110],
  [54, 101, 49], [48, 120, 51, 99], [54, 101, 49, 110],
  [54, 49, 101, 48], [48, 120, 51, 100], [54, 49, 101, 48, 110],
  [54, 50, 101, 48], [48, 120, 51, 101], [54, 50, 101, 48, 110],
  [54, 51, 101, 48], [48, 120, 51, 102], [54, 51, 101, 48, 110],
  [54, 52, 101, 48], [48, 120, 52, 48], [54, 52, 101, 48, 110]]
def codeF (p i : Nat) : Nat := 3 * (p - 1) + (max i 2 - 2)
set_option maxRecDepth 100000 in
theorem form_canon0 : ∀ p : Fin 64, ∀ i : Fin 5, canonB (mkB (formL (p.val + 1) i.val)) = (formT[codeF (p.val + 1) i.val]!, 0) := by decide +kernel
set_option maxRecDepth 100000 in
theorem formT_nodup : formT.Nodup := by decide +kernel
theorem formT_len : formT.length = 192 := by decide +kernel
theorem form_canon {p i : Nat} (h1 : 1 ≤ p) (h2 : p ≤ 64) (hi : i < 5) : canonB (mkB (formL p i)) = (formT[codeF p i]!, 0) := by
  have := form_canon0 ⟨p - 1, by omega⟩ ⟨i, hi⟩
  simp only [show p - 1 + 1 = p by omega] at this
  exact this
theorem form_inj {p q i k : Nat} (h1 : 1 ≤ p) (h2 : p ≤ 64) (hi : i < 5) (h3 : 1 ≤ q) (h4 : q ≤ 64) (hk : k < 5) (h : formT[codeF p i]! = formT[codeF q k]!) : p = q ∧ max i 2 = max k 2 := by
  have hl := formT_len
  have l1 : codeF p i < formT.length := by rw [hl]; unfold codeF; omega
  have l2 : codeF q k < formT.length := by rw [hl]; unfold codeF; omega
  rw [getElem!_pos formT _ l1, getElem!_pos formT _ l2] at h
  have hp := List.pairwise_iff_getElem.1 formT_nodup
  have : codeF p i = codeF q k := by
    rcases Nat.lt_trichotomy (codeF p i) (codeF q k) with h5 | h5 | h5
    · exact absurd h (hp _ _ l1 l2 h5)
    · exact h5
    · exact absurd h.symm (hp _ _ l2 l1 h5)
  unfold codeF at this
  omega
set_option maxRecDepth 20000 in
set_option maxHeartbeats 1000000 in
/-- NumOthers$1: a number's forms. -/
theorem forms_any (p i : Nat) (a : Int) (w : World) (h1 : 1 ≤ p) (h2 : p ≤ 64) (hi : i < 5) (hai : (IntKind.u64.wrap a).tmod 5 = (i : Int)) (z : Int) (hz : z = p) :
    Calls Tryd.prog 16 #[.int .i64 z, .int .i64 a] w fun e w' => e = .returned (.string (mkB (formL p i))) ∧ Below w.heap.size w w' := by
  subst hz
  obtain ⟨D, hD, hDl⟩ := mk_of (digL 10 p)
  obtain ⟨E, hE, hEl⟩ := mk_of (digL 16 p)
  have hDs : D.size ≤ 7 := by
    rw [← ofl, hDl]
    exact digL_len (by decide) 7 _ (by have : (2 : Nat) ^ 7 = 128 := by decide
                                       omega)
  have hEs : E.size ≤ 7 := by
    rw [← ofl, hEl]
    exact digL_len (by decide) 7 _ (by have : (2 : Nat) ^ 7 = 128 := by decide
                                       omega)
  have cD : ∀ (W : World) (z b : Int) (L : ByteArray), (b = 10 ∧ L = D) ∨ (b = 16 ∧ L = E) → z = p → Calls Tryd.prog 15 #[.int .i64 z, .int .i64 b] W fun e w' => e = .returned (.string L) ∧ Below W.heap.size W w' := by
    intro W z b L hb hz
    rcases hb with ⟨rfl, rfl⟩ | ⟨rfl, rfl⟩
    · rw [← hD]; exact digits_10 p W (by omega) (by omega) z hz
    · rw [← hE]; exact digits_16 p W (by omega) (by omega) z hz
  have CD := Lib.hid cD
  have H0 := Lib.hid (show mkB (formL p 0) = D from ba_ext (by rw [mkB_list, hDl]; rfl))
  have H1 := Lib.hid (show mkB (formL p 1) = D ++ ⟨#[46, 48]⟩ from ba_ext (by rw [mkB_list, ByteArray.data_append, Array.toList_append, hDl]; rfl))
  have H2 := Lib.hid (show mkB (formL p 2) = D ++ ⟨#[48, 101, 45, 49]⟩ from ba_ext (by rw [mkB_list, ByteArray.data_append, Array.toList_append, hDl]; rfl))
  have H3 := Lib.hid (show mkB (formL p 3) = ⟨#[48, 120]⟩ ++ E from ba_ext (by rw [mkB_list, ByteArray.data_append, Array.toList_append, hEl]; rfl))
  have H4 := Lib.hid (show mkB (formL p 4) = D ++ ⟨#[110]⟩ from ba_ext (by rw [mkB_list, ByteArray.data_append, Array.toList_append, hDl]; rfl))
  clear cD hD hE hDl hEl
  have h5 : i = 0 ∨ i = 1 ∨ i = 2 ∨ i = 3 ∨ i = 4 := by omega
  rcases h5 with rfl | rfl | rfl | rfl | rfl
  · have hb := Below.refl w.heap.size w
    go_enter Tryd.func16, Tryd.ntmps16
    go_wp2_with (go_at_call 15; refine (CD.out _ _ _ _ (by first | exact .inl ⟨rfl, rfl⟩ | exact .inr ⟨rfl, rfl⟩) rfl).mono ?_; rintro e w1 ⟨rfl, hb1⟩; replace hb := bel_next hb hb1; clear hb1)
    go_ret
    exact ⟨by rw [H0.out]; rfl, bel_alloc hb _⟩
  · have hb := Below.refl w.heap.size w
    go_enter Tryd.func16, Tryd.ntmps16
    go_wp2_with (go_at_call 15; refine (CD.out _ _ _ _ (by first | exact .inl ⟨rfl, rfl⟩ | exact .inr ⟨rfl, rfl⟩) rfl).mono ?_; rintro e w1 ⟨rfl, hb1⟩; replace hb := bel_next hb hb1; clear hb1)
    go_ret
    exact ⟨by rw [H1.out]; rfl, bel_alloc hb _⟩
  · have hb := Below.refl w.heap.size w
    go_enter Tryd.func16, Tryd.ntmps16
    go_wp2_with (go_at_call 15; refine (CD.out _ _ _ _ (by first | exact .inl ⟨rfl, rfl⟩ | exact .inr ⟨rfl, rfl⟩) rfl).mono ?_; rintro e w1 ⟨rfl, hb1⟩; replace hb := bel_next hb hb1; clear hb1)
    go_ret
    exact ⟨by rw [H2.out]; rfl, bel_alloc hb _⟩
  · have hb := Below.refl w.heap.size w
    go_enter Tryd.func16, Tryd.ntmps16
    go_wp2_with (go_at_call 15; refine (CD.out _ _ _ _ (by first | exact .inl ⟨rfl, rfl⟩ | exact .inr ⟨rfl, rfl⟩) rfl).mono ?_; rintro e w1 ⟨rfl, hb1⟩; replace hb := bel_next hb hb1; clear hb1)
    go_ret
    exact ⟨by rw [H3.out]; rfl, bel_alloc hb _⟩
  · have hb := Below.refl w.heap.size w
    go_enter Tryd.func16, Tryd.ntmps16
    go_wp2_with (go_at_call 15; refine (CD.out _ _ _ _ (by first | exact .inl ⟨rfl, rfl⟩ | exact .inr ⟨rfl, rfl⟩) rfl).mono ?_; rintro e w1 ⟨rfl, hb1⟩; replace hb := bel_next hb hb1; clear hb1)
    go_ret
    exact ⟨by rw [H4.out]; rfl, bel_alloc hb _⟩
/-- NumOthers$2: a kind. -/
theorem kind_any (v : Nat) (w : World) (hv : v < 5) :
    Calls Tryd.prog 17 #[.int .u64 v] w fun e w' => e = .returned (.int .u64 (max v 2 : Nat)) ∧ w = w' := by
  have h5 : v = 0 ∨ v = 1 ∨ v = 2 ∨ v = 3 ∨ v = 4 := by omega
  rcases h5 with rfl | rfl | rfl | rfl | rfl
  all_goals
    go_enter Tryd.func17, Tryd.ntmps17
    go_wp2_with fail
    go_ret
    exact ⟨rfl, rfl⟩
theorem and6 (q : Int) : ∃ z : Nat, z ≤ 63 ∧ bits BinOp.and IntKind.i64 q 63 = (z : Int) := by
  refine ⟨(BitVec.ofInt 64 q &&& BitVec.ofInt 64 63).toNat, ?_, ?_⟩
  · rw [BitVec.toNat_and]
    exact Nat.and_le_right
  · show IntKind.i64.wrap ((BitVec.ofInt 64 q &&& BitVec.ofInt 64 63).toNat : Int) = _
    refine Lib.wrap_i64_small _ ?_
    rw [BitVec.toNat_and]
    exact Nat.lt_of_le_of_lt Nat.and_le_right (by decide)
theorem formT_short : ∀ i : Nat, i < 192 → (formT[i]!).length ≤ 8 := by
  have g : ∀ i : Fin 192, (formT[i.val]!).length ≤ 8 := by decide +kernel
  exact fun i h => g ⟨i, h⟩
theorem digL_short {b p : Nat} (hb : 2 ≤ b) (h : p ≤ 64) : (digL b p).length ≤ 7 := by
  have e : (2 : Nat) ^ 7 = 128 := by decide
  exact digL_len hb 7 _ (by omega)
theorem formL_len {p i : Nat} (h : p ≤ 64) : (formL p i).length ≤ 11 := by
  have h1 := digL_short (b := 10) (by decide) h
  have h2 := digL_short (b := 16) (by decide) h
  unfold formL
  split
  · omega
  · split
    · simp; omega
    · split
      · simp; omega
      · split
        · simp; omega
        · simp; omega
theorem canon_form {p i : Nat} (h1 : 1 ≤ p) (h2 : p ≤ 64) (hi : i < 5) (W : World) (hM : MaxAt W) :
    Calls Tryd.prog 8 #[.string (mkB (formL p i))] W fun e w' => e = .returned (.tuple #[.string (mkB formT[codeF p i]!), .int .i64 0]) ∧ Below W.heap.size W w' := by
  have hl := formL_len (i := i) h2
  have := canon_any (mkB (formL p i)) W (by rw [mkB_size]; omega) hM
  rw [form_canon h1 h2 hi] at this
  exact this
set_option maxRecDepth 20000 in
set_option maxHeartbeats 1000000 in
theorem others_law (x y a b : Int) (w : World) (hM : MaxAt w) :
    Calls Tryd.prog 6 #[.int .i64 x, .int .i64 y, .int .i64 a, .int .i64 b] w fun e w' => e = .returned (.bool true) ∧ Below w.heap.size w w' := by
  obtain ⟨m, hm, hme⟩ := and6 x
  obtain ⟨n, hn, hne⟩ := and6 y
  obtain ⟨i, hi, hie⟩ := u64_mod a 5 (by decide)
  obtain ⟨k, hk, hke⟩ := u64_mod b 5 (by decide)
  have hie : (IntKind.u64.wrap a).tmod 5 = (i : Int) := hie
  have hke : (IntKind.u64.wrap b).tmod 5 = (k : Int) := hke
  have c1 := fun W => forms_any (m + 1) i a W (by omega) (by omega) hi hie
  have c2 := fun W => forms_any (n + 1) k b W (by omega) (by omega) hk hke
  have d1 := fun W => canon_form (p := m + 1) (i := i) (by omega) (by omega) hi W
  have d2 := fun W => canon_form (p := n + 1) (i := k) (by omega) (by omega) hk W
  have s1 := formL_len (p := m + 1) (i := i) (by omega)
  have s2 := formL_len (p := n + 1) (i := k) (by omega)
  rw [← mkB_size] at s1 s2
  have k1 := fun W => kind_any i W hi
  have k2 := fun W => kind_any k W hk
  have hT : ((mkB formT[codeF (m + 1) i]!).toList == (mkB formT[codeF (n + 1) k]!).toList) = (decide (m = n) && (((max i 2 : Nat) : Int) == ((max k 2 : Nat) : Int))) := by
    rw [Lib.toList_data, Lib.toList_data, mkB_list, mkB_list]
    by_cases h : m = n ∧ max i 2 = max k 2
    · obtain ⟨rfl, h2⟩ := h
      have : codeF (m + 1) i = codeF (m + 1) k := by unfold codeF; rw [h2]
      rw [this, h2, decide_eq_true rfl, beq_self_eq_true, beq_self_eq_true]
      rfl
    · have hne : formT[codeF (m + 1) i]! ≠ formT[codeF (n + 1) k]! := fun e2 => by
        have := form_inj (p := m + 1) (q := n + 1) (by omega) (by omega) hi (by omega) (by omega) hk e2
        exact h ⟨by omega, this.2⟩
      rw [beq_eq_false_iff_ne.2 hne, eq_comm, Bool.and_eq_false_iff, decide_eq_false_iff_not, beq_eq_false_iff_ne]
      omega
  have hk1 : max i 2 < 5 := by omega
  have hk2 : max k 2 < 5 := by omega
  generalize mkB formT[codeF (m + 1) i]! = C1 at *
  generalize mkB formT[codeF (n + 1) k]! = C2 at *
  generalize mkB (formL (m + 1) i) = S1 at *
  generalize mkB (formL (n + 1) k) = S2 at *
  generalize max i 2 = K1 at *
  generalize max k 2 = K2 at *
  have F1 := Lib.hid c1
  have F2 := Lib.hid c2
  have N1 := Lib.hid d1
  have N2 := Lib.hid d2
  have Q1 := Lib.hid k1
  have Q2 := Lib.hid k2
  have HM := Lib.hid hM
  have HT := Lib.hid hT
  clear c1 c2 d1 d2 k1 k2 hM hT
  go_enter Tryd.func6, Tryd.ntmps6
  go_upto_region 6 with (go_at_call 14; refine (awake_any _ HM.out).mono ?_; rintro e w0 ⟨rfl, hb0⟩)
  have HM0 := Lib.hid (HM.out.below hb0)
  go_upto_region 7 with (first | (go_at_call 16; refine (F1.out _ _ (by omega)).mono ?_; rintro e w1 ⟨rfl, hb1⟩) | (go_at_call 8; refine (N1.out _ (HM0.out.below hb1)).mono ?_; rintro e w2 ⟨rfl, hb2⟩))
  have HM2 := Lib.hid ((HM0.out.below hb1).below hb2)
  go_upto_region 9 with (first | (go_at_call 16; refine (F2.out _ _ (by omega)).mono ?_; rintro e w3 ⟨rfl, hb3⟩) | (go_at_call 8; refine (N2.out _ (HM2.out.below hb3)).mono ?_; rintro e w4 ⟨rfl, hb4⟩))
  go_wp2_with (first | (go_at_call 12; refine (num_any _ _).mono ?_; rintro e w' ⟨rfl, rfl⟩) | (go_at_call 17; refine (Q1.out _).mono ?_; rintro e w' ⟨rfl, rfl⟩) | (go_at_call 17; refine (Q2.out _).mono ?_; rintro e w' ⟨rfl, rfl⟩))
  all_goals
    go_ret
    refine ⟨?_, bel_next (bel_next (bel_next (bel_next hb0 hb1) hb2) hb3) hb4⟩
    show Ending.returned (.bool _) = _
    rw [HT.out]
    first | (rw [decide_eq_false (by omega)]; rfl) | (rw [decide_eq_true rfl]; simp) | (rw [decide_eq_true (by omega)]; simp)
end Go.Proofs.YthnchejhcmpipaaDoor
