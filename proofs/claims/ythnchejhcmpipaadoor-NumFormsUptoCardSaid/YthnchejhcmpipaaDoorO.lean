/- NumPrints: what is printed is the same number, and printed again the same text: the law's own function answers true where the plain law holds of the text. Conditions: at most 2^20 bytes; MaxLen holds a number. -/
import Derived.Test.YthnchejhcmpipaaDoorN
namespace Go.Proofs.YthnchejhcmpipaaDoor
open Go.RowKit

/-- the plain law: printed and read again. -/
def PrintOk (s : ByteArray) : Prop := (readB s).2 = true → canonB ⟨(printB s).1.toArray⟩ = canonB s ∧ printB ⟨(printB s).1.toArray⟩ = printB s ∧ (printB s).1.length ≤ s.size + 1

set_option maxRecDepth 20000 in
set_option maxHeartbeats 1000000 in
theorem numPrints_walk (s : ByteArray) (w : World) (hs : s.size ≤ 1048576) (hM : MaxAt w) (hP : PrintOk s) :
    Calls Tryd.prog 4 #[.string s] w fun e w' => e = .returned (.bool true) ∧ Below w.heap.size w w' := by
  have h1 := fun W h => canon_any s W (by omega) h
  have h2 := fun W h => print_any s W (by omega) h
  have HM := Lib.hid hM
  clear hM
  cases hf : (readB s).2 with
  | false =>
    have e1 : canonB s = ([], 200) := by unfold canonB; rw [hf]; rfl
    have e2 : printB s = ([], 200) := by unfold printB; rw [hf]; rfl
    rw [e1] at h1
    rw [e2] at h2
    have H1 := Lib.hid h1
    have H2 := Lib.hid h2
    clear h1 h2 e1 e2 hf hP
    go_enter Tryd.func4, Tryd.ntmps4
    go_wp2_with (first | (go_at_call 14; refine (awake_any _ HM.out).mono ?_; rintro e w0 ⟨rfl, hb0⟩) | (go_at_call 8; refine (H1.out _ (HM.out.below hb0)).mono ?_; rintro e w1 ⟨rfl, hb1⟩) | (go_at_call 9; refine (H2.out _ ((HM.out.below hb0).below hb1)).mono ?_; rintro e w2 ⟨rfl, hb2⟩) | (go_at_call 12; refine (num_any _ _).mono ?_; rintro e w' ⟨rfl, rfl⟩))
    go_ret
    exact ⟨rfl, bel_next (bel_next hb0 hb1) hb2⟩
  | true =>
    obtain ⟨p1, p2, p3⟩ := hP hf
    have e1 : (canonB s).2 = 0 := by unfold canonB; rw [hf]; rfl
    have e2 : (printB s).2 = 0 := by unfold printB; rw [hf]; rfl
    have h3 := fun W h => canon_any ⟨(printB s).1.toArray⟩ W (by show (printB s).1.length ≤ _; omega) h
    have h4 := fun W h => print_any ⟨(printB s).1.toArray⟩ W (by show (printB s).1.length ≤ _; omega) h
    rw [p1] at h3
    rw [p2] at h4
    rw [e1] at h1 h3
    rw [e2] at h2 h4
    obtain ⟨A, hA⟩ : ∃ A : ByteArray, (⟨(canonB s).1.toArray⟩ : ByteArray) = A := ⟨_, rfl⟩
    obtain ⟨B, hB⟩ : ∃ B : ByteArray, (⟨(printB s).1.toArray⟩ : ByteArray) = B := ⟨_, rfl⟩
    have hBs : B.size ≤ s.size + 1 := by rw [← hB]; exact p3
    rw [hA] at h1 h3
    rw [hB] at h2 h3 h4
    have H1 := Lib.hid h1
    have H2 := Lib.hid h2
    have H3 := Lib.hid h3
    have H4 := Lib.hid h4
    clear h1 h2 h3 h4 e1 e2 hf hP p1 p2 p3 hA hB
    go_enter Tryd.func4, Tryd.ntmps4
    go_upto_region 4 with (first | (go_at_call 14; refine (awake_any _ HM.out).mono ?_; rintro e w0 ⟨rfl, hb0⟩) | (go_at_call 8; refine (H1.out _ (HM.out.below hb0)).mono ?_; rintro e w1 ⟨rfl, hb1⟩))
    have HM1 := Lib.hid ((HM.out.below hb0).below hb1)
    go_upto_region 5 with (go_at_call 9; refine (H2.out _ HM1.out).mono ?_; rintro e w2 ⟨rfl, hb2⟩)
    have HM2 := Lib.hid (HM1.out.below hb2)
    go_upto_region 8 with (first | (go_at_call 8; refine (H3.out _ HM2.out).mono ?_; rintro e w3 ⟨rfl, hb3⟩) | (go_at_call 12; refine (num_any _ _).mono ?_; rintro e w' ⟨rfl, rfl⟩))
    have HM3 := Lib.hid (HM2.out.below hb3)
    go_wp2_with (first | (go_at_call 9; refine (H4.out _ HM3.out).mono ?_; rintro e w4 ⟨rfl, hb4⟩) | (go_at_call 12; refine (num_any _ _).mono ?_; rintro e w' ⟨rfl, rfl⟩))
    go_ret
    refine ⟨?_, bel_next (bel_next (bel_next (bel_next hb0 hb1) hb2) hb3) hb4⟩
    show Ending.returned (Value.bool (decide ((B.size : Int) ≤ (s.size : Int) + 1))) = _
    rw [decide_eq_true (show (B.size : Int) ≤ (s.size : Int) + 1 by omega)]
end Go.Proofs.YthnchejhcmpipaaDoor
