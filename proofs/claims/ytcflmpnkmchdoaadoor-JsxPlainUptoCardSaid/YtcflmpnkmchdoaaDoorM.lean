/- Contracts: awake, and the law JsxEntities' own function: both answer true. Condition: at most 2^24 bytes. -/
import Derived.Test.YtcflmpnkmchdoaaDoorL
import Derived.Test.YtcflmpnkmchdoaaDoorJ
namespace Go.Proofs.YtcflmpnkmchdoaaDoor
open Go.RowKit

theorem aw1 (W : World) : Calls Tryd.prog 9 #[.string ⟨#[38, 108, 116, 59, 38, 35, 54, 53, 59]⟩] W fun e w' => e = .returned (.tuple #[.string ⟨#[60, 65]⟩, .int .i64 0, .int .i64 0]) ∧ Below W.heap.size W w' := by
  refine (entities_any _ W (by decide)).mono fun e w' ⟨h, hb⟩ => ⟨?_, hb⟩
  have e0 : entities [38, 108, 116, 59, 38, 35, 54, 53, 59] = .inr [60, 65] := by decide +kernel
  rw [h, e0]; rfl
theorem aw2 (W : World) : Calls Tryd.prog 9 #[.string ⟨#[97, 38, 35, 120, 68, 56, 48, 48, 59]⟩] W fun e w' => e = .returned (.tuple #[.string ⟨#[]⟩, .int .i64 1, .int .i64 700]) ∧ Below W.heap.size W w' := by
  refine (entities_any _ W (by decide)).mono fun e w' ⟨h, hb⟩ => ⟨?_, hb⟩
  have e0 : entities [97, 38, 35, 120, 68, 56, 48, 48, 59] = .inl 1 := by decide +kernel
  rw [h, e0]; rfl
theorem aw3 (W : World) : Calls Tryd.prog 16 #[.string ⟨#[32, 97, 10, 32, 32, 98, 32, 32, 99, 32, 10]⟩] W fun e w' => e = .returned (.string ⟨#[32, 97, 32, 98, 32, 32, 99]⟩) ∧ Below W.heap.size W w' := by
  refine (shown_any _ (by decide) W).mono fun e w' ⟨h, hb⟩ => ⟨?_, hb⟩
  have e0 : shownL [32, 97, 10, 32, 32, 98, 32, 32, 99, 32, 10] = [32, 97, 32, 98, 32, 32, 99] := by decide +kernel
  rw [h, e0]
theorem aw4 (W : World) : Calls Tryd.prog 13 #[.string ⟨#[97, 32, 98]⟩] W fun e w' => ∃ a c, e = .returned (.slice a 2 c) ∧ Below W.heap.size W w' := by
  refine (words_any _ W (by decide)).mono fun e w' ⟨v, h, ht, hb⟩ => ?_
  have e0 : wordsL [97, 32, 98] = [[97], [98]] := by decide +kernel
  have ht' : Texts w' W.heap.size v (wordsL [97, 32, 98]) := ht
  rw [e0] at ht'
  obtain ⟨a, c, rfl, _⟩ := ht'.slice
  exact ⟨a, c, h, hb⟩
set_option maxHeartbeats 1000000 in
theorem awake_any (w : World) : Calls Tryd.prog 12 #[] w fun e w' => e = .returned (.bool true) ∧ Below w.heap.size w w' := by
  go_enter Tryd.func12, Tryd.ntmps12
  go_upto_region 2 with (go_at_call 9; refine (aw1 _).mono ?_; rintro e w1 ⟨rfl, hb1⟩)
  go_upto_region 3 with (go_at_call 9; refine (aw2 _).mono ?_; rintro e w2 ⟨rfl, hb2⟩)
  go_wp2_with (first | (go_at_call 11; refine (num_any _ _).mono ?_; rintro e w' ⟨rfl, rfl⟩) | (go_at_call 16; refine (aw3 _).mono ?_; rintro e w3 ⟨rfl, hb3⟩) | (go_at_call 13; refine (aw4 _).mono ?_; rintro e w4 ⟨a, c, rfl, hb4⟩))
  go_ret
  exact ⟨rfl, ((hb1.trans (hb2.mono hb1.size)).trans (hb3.mono (Nat.le_trans hb1.size hb2.size))).trans (hb4.mono (Nat.le_trans hb1.size (Nat.le_trans hb2.size hb3.size)))⟩
set_option maxHeartbeats 1000000 in
/-- the law's own function. -/
theorem jsxEntities_law (s : ByteArray) (w : World) (hs : s.size ≤ 16777216) : Calls Tryd.prog 3 #[.string s] w fun e w' => e = .returned (.bool true) ∧ Below w.heap.size w w' := by
  have h1 := fun W => entities_any s W hs
  have h2 := fun W => entities_ref s W hs
  generalize entities s.data.toList = x at *
  have H1 := Lib.hid h1
  have H2 := Lib.hid h2
  clear h1 h2
  cases x with
  | inl a =>
    go_enter Tryd.func3, Tryd.ntmps3
    go_wp2_with (first | (go_at_call 9; refine (H1.out _).mono ?_; rintro e w1 ⟨rfl, hb1⟩; unfold entsV) | (go_at_call 10; refine (H2.out _).mono ?_; rintro e w2 ⟨rfl, hb2⟩; unfold entsV) | (go_at_call 11; refine (num_any _ _).mono ?_; rintro e w' ⟨rfl, rfl⟩) | (go_at_call 12; refine (awake_any _).mono ?_; rintro e w3 ⟨rfl, hb3⟩))
    go_ret
    exact ⟨rfl, (hb1.trans (hb2.mono hb1.size)).trans (hb3.mono (Nat.le_trans hb1.size hb2.size))⟩
  | inr l =>
    go_enter Tryd.func3, Tryd.ntmps3
    go_wp2_with (first | (go_at_call 9; refine (H1.out _).mono ?_; rintro e w1 ⟨rfl, hb1⟩; unfold entsV) | (go_at_call 10; refine (H2.out _).mono ?_; rintro e w2 ⟨rfl, hb2⟩; unfold entsV) | (go_at_call 11; refine (num_any _ _).mono ?_; rintro e w' ⟨rfl, rfl⟩) | (go_at_call 12; refine (awake_any _).mono ?_; rintro e w3 ⟨rfl, hb3⟩))
    go_ret
    exact ⟨rfl, (hb1.trans (hb2.mono hb1.size)).trans (hb3.mono (Nat.le_trans hb1.size hb2.size))⟩
end Go.Proofs.YtcflmpnkmchdoaaDoor
