/- Contract of platenlaw2's awake: it answers true. Condition: MaxLen holds a number. -/
import Derived.Test.YthnchejhcmpipaaDoorM
namespace Go.Proofs.YthnchejhcmpipaaDoor
open Go.RowKit

theorem num_any (n : Int) (w : World) : Calls Tryd.prog 12 #[.int .i64 n] w fun e w' => e = .returned (.int .i64 n) ∧ w = w' := by
  go_enter Tryd.func12, Tryd.ntmps12
  go_wp2
  go_ret
  exact ⟨rfl, rfl⟩
theorem aw_read : readB ⟨#[49, 95, 48, 48, 48, 46, 53, 48]⟩ = (⟨10, ⟨#[49, 95, 48, 48, 48]⟩, true, ⟨#[53, 48]⟩, false, false, ⟨#[]⟩, false⟩, true) := by
  with_unfolding_all rfl
theorem aw_check : (readB ⟨#[48, 95, 49]⟩).2 = false := by with_unfolding_all rfl
theorem aw_print : printB ⟨#[46, 53, 69, 43, 49, 48]⟩ = ([48, 46, 53, 101, 49, 48], 0) := by with_unfolding_all rfl
abbrev awX : Lit := ⟨10, ⟨#[49, 95, 48, 48, 48]⟩, true, ⟨#[53, 48]⟩, false, false, ⟨#[]⟩, false⟩
theorem aw_canon : canonB ⟨#[49, 95, 48, 48, 48, 46, 53, 48]⟩ = ([49, 48, 48, 48, 53, 101, 45, 49], 0) := by
  unfold canonB
  rw [aw_read]
  have hd : digsT awX = [49, 48, 48, 48, 53, 48] := by with_unfolding_all rfl
  have hk : Lib.trimRightB [49, 48, 48, 48, 53, 48] 48 = [49, 48, 48, 48, 53] := by with_unfolding_all rfl
  have hv : valT awX = -1 := by with_unfolding_all rfl
  have h1 : decL 1 = [49] := by rw [decL_small (by decide)]; rfl
  show (canonT awX, (0 : Int)) = _
  unfold canonT
  rw [hd, hk, hv, if_neg (by decide), if_pos (by decide), show ((-1 : Int)).natAbs = 1 from rfl, h1]
  rfl
set_option maxRecDepth 20000 in
set_option maxHeartbeats 800000 in
theorem awake_any (w : World) (hM : MaxAt w) : Calls Tryd.prog 14 #[] w fun e w' => e = .returned (.bool true) ∧ Below w.heap.size w w' := by
  have h1 := fun W h => canon_any ⟨#[49, 95, 48, 48, 48, 46, 53, 48]⟩ W (by decide) h
  rw [aw_canon] at h1
  have h2 := fun W h => print_any ⟨#[46, 53, 69, 43, 49, 48]⟩ W (by decide) h
  rw [aw_print] at h2
  have h3 := fun W h => check_any ⟨#[48, 95, 49]⟩ W (by decide) h
  rw [aw_check] at h3
  have H1 := Lib.hid h1
  have H2 := Lib.hid h2
  have H3 := Lib.hid h3
  have HM := Lib.hid hM
  clear h1 h2 h3 hM
  go_enter Tryd.func14, Tryd.ntmps14
  go_wp2_with (first | (go_at_call 8; refine (H1.out _ HM.out).mono ?_; rintro e w1 ⟨rfl, hb1⟩) | (go_at_call 9; refine (H2.out _ (HM.out.below hb1)).mono ?_; rintro e w2 ⟨rfl, hb2⟩) | (go_at_call 7; refine (H3.out _ ((HM.out.below hb1).below hb2)).mono ?_; rintro e w3 ⟨rfl, hb3⟩) | (go_at_call 12; refine (num_any _ _).mono ?_; rintro e w' ⟨rfl, rfl⟩))
  go_ret
  exact ⟨rfl, bel_next (bel_next hb1 hb2) hb3⟩
end Go.Proofs.YthnchejhcmpipaaDoor
