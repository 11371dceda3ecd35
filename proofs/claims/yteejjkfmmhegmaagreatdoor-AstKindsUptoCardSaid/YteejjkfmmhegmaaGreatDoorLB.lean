/- Contracts of uni.Start and uni.Part. No condition. -/
import Derived.Test.YteejjkfmmhegmaaGreatDoorLA
namespace Go.Proofs.YteejjkfmmhegmaaGreatDoor
open Go.RowKit

set_option maxRecDepth 20000 in
theorem in_startR (c : Int) (w : World) (g : Nat) (hg : g = w.heap.size) : Calls Tryz.prog 103 #[.int .i64 c, .slice (some ⟨g, 0, none⟩) 38 38] (w.alloc (.cells #[.int .i64 192, .int .i64 214, .int .i64 216, .int .i64 246, .int .i64 248, .int .i64 705, .int .i64 880, .int .i64 883, .int .i64 904, .int .i64 1023, .int .i64 1024, .int .i64 1153, .int .i64 1162, .int .i64 1327, .int .i64 1329, .int .i64 1366, .int .i64 1488, .int .i64 1514, .int .i64 1568, .int .i64 1610, .int .i64 2308, .int .i64 2361, .int .i64 3585, .int .i64 3632, .int .i64 7680, .int .i64 8191, .int .i64 12353, .int .i64 12438, .int .i64 12449, .int .i64 12538, .int .i64 13312, .int .i64 19903, .int .i64 19968, .int .i64 40959, .int .i64 44032, .int .i64 55203, .int .i64 131072, .int .i64 173791] 3)) fun e w' => e = .returned (.bool (inL c startR)) ∧ w.alloc (.cells #[.int .i64 192, .int .i64 214, .int .i64 216, .int .i64 246, .int .i64 248, .int .i64 705, .int .i64 880, .int .i64 883, .int .i64 904, .int .i64 1023, .int .i64 1024, .int .i64 1153, .int .i64 1162, .int .i64 1327, .int .i64 1329, .int .i64 1366, .int .i64 1488, .int .i64 1514, .int .i64 1568, .int .i64 1610, .int .i64 2308, .int .i64 2361, .int .i64 3585, .int .i64 3632, .int .i64 7680, .int .i64 8191, .int .i64 12353, .int .i64 12438, .int .i64 12449, .int .i64 12538, .int .i64 13312, .int .i64 19903, .int .i64 19968, .int .i64 40959, .int .i64 44032, .int .i64 55203, .int .i64 131072, .int .i64 173791] 3) = w' := by
  have e : (startR.map (Value.int .i64)).toArray = #[.int .i64 192, .int .i64 214, .int .i64 216, .int .i64 246, .int .i64 248, .int .i64 705, .int .i64 880, .int .i64 883, .int .i64 904, .int .i64 1023, .int .i64 1024, .int .i64 1153, .int .i64 1162, .int .i64 1327, .int .i64 1329, .int .i64 1366, .int .i64 1488, .int .i64 1514, .int .i64 1568, .int .i64 1610, .int .i64 2308, .int .i64 2361, .int .i64 3585, .int .i64 3632, .int .i64 7680, .int .i64 8191, .int .i64 12353, .int .i64 12438, .int .i64 12449, .int .i64 12538, .int .i64 13312, .int .i64 19903, .int .i64 19968, .int .i64 40959, .int .i64 44032, .int .i64 55203, .int .i64 131072, .int .i64 173791] := rfl
  have h := in_any c startR g 38 (w.alloc (.cells (startR.map (Value.int .i64)).toArray 3)) (by decide) (intsAt_new' w startR 3 g hg)
  rw [e] at h
  exact h
theorem two_alloc (w : World) (a b : Obj) : Below w.heap.size w ((w.alloc a).alloc b) := ((Below.refl _ _).alloc (Nat.le_refl _) _).alloc (by simp) _
set_option maxRecDepth 20000 in
set_option maxHeartbeats 1000000 in
theorem start_any (c : Int) (w : World) : Calls Tryz.prog 72 #[.int .i64 c] w fun e w' => e = .returned (.bool (startC c)) ∧ Below w.heap.size w w' := by
  by_cases hc : c < 128
  · cases h : oneL c [36, 95] with
    | true =>
      have HV := Lib.hid (show startC c = true by unfold startC; rw [if_pos hc, h]; rfl)
      have h1 := fun g cap W hi => one_any c [36, 95] g cap W (by decide) hi
      rw [h] at h1
      have H1 := Lib.hid h1
      clear h h1
      go_enter Tryz.func72, Tryz.ntmps72
      go_wp2_with (go_at_call 104; refine (H1.out _ _ _ (intsAt_new w [36, 95] 3)).mono ?_; rintro e w1 ⟨rfl, rfl⟩)
      go_ret
      exact ⟨by rw [HV.out]; rfl, (Below.refl _ _).alloc (Nat.le_refl _) _⟩
    | false =>
      have HV := Lib.hid (show startC c = inL c startA by unfold startC; rw [if_pos hc, h]; rfl)
      have h1 := fun g cap W hi => one_any c [36, 95] g cap W (by decide) hi
      rw [h] at h1
      have H1 := Lib.hid h1
      clear h h1
      go_enter Tryz.func72, Tryz.ntmps72
      go_wp2_with (first | (go_at_call 104; refine (H1.out _ _ _ (intsAt_new w [36, 95] 3)).mono ?_; rintro e w1 ⟨rfl, rfl⟩) | (go_at_call 103; refine (in_any c startA _ _ _ (by decide) (intsAt_new' _ startA 3 _ (by first | rfl | simp))).mono ?_; rintro e w1 ⟨rfl, rfl⟩))
      go_ret
      exact ⟨by rw [HV.out]; rfl, two_alloc _ _ _⟩
  · cases h : oneL c startT with
    | true =>
      have HV := Lib.hid (show startC c = true by unfold startC; rw [if_neg hc, h]; rfl)
      have h1 := fun g cap W hi => one_any c startT g cap W (by decide) hi
      rw [h] at h1
      have H1 := Lib.hid h1
      clear h h1
      go_enter Tryz.func72, Tryz.ntmps72
      go_wp2_with (go_at_call 104; refine (H1.out _ _ _ (intsAt_new w startT 3)).mono ?_; rintro e w1 ⟨rfl, rfl⟩)
      go_ret
      exact ⟨by rw [HV.out]; rfl, (Below.refl _ _).alloc (Nat.le_refl _) _⟩
    | false =>
      have HV := Lib.hid (show startC c = inL c startR by unfold startC; rw [if_neg hc, h]; rfl)
      have h1 := fun g cap W hi => one_any c startT g cap W (by decide) hi
      rw [h] at h1
      have H1 := Lib.hid h1
      clear h h1
      go_enter Tryz.func72, Tryz.ntmps72
      go_wp2_with (first | (go_at_call 104; refine (H1.out _ _ _ (intsAt_new w startT 3)).mono ?_; rintro e w1 ⟨rfl, rfl⟩) | (go_at_call 103; refine (in_startR c _ _ (by first | (simp; done) | rfl)).mono ?_; rintro e w1 ⟨rfl, rfl⟩))
      go_ret
      exact ⟨by rw [HV.out]; rfl, two_alloc _ _ _⟩
set_option maxRecDepth 20000 in
set_option maxHeartbeats 1000000 in
theorem part_any (c : Int) (w : World) : Calls Tryz.prog 71 #[.int .i64 c] w fun e w' => e = .returned (.bool (partC c)) ∧ Below w.heap.size w w' := by
  cases h : startC c with
  | true =>
    have HV := Lib.hid (show partC c = true by unfold partC; rw [h]; rfl)
    have h1 := fun W => start_any c W
    rw [h] at h1
    have H1 := Lib.hid h1
    clear h h1
    go_enter Tryz.func71, Tryz.ntmps71
    go_wp2_with (go_at_call 72; refine (H1.out _).mono ?_; rintro e w1 ⟨rfl, hb1⟩)
    go_ret
    exact ⟨by rw [HV.out]; rfl, hb1⟩
  | false =>
    have HV := Lib.hid (show partC c = inL c partR by unfold partC; rw [h]; rfl)
    have h1 := fun W => start_any c W
    rw [h] at h1
    have H1 := Lib.hid h1
    clear h h1
    go_enter Tryz.func71, Tryz.ntmps71
    go_wp2_with (first | (go_at_call 72; refine (H1.out _).mono ?_; rintro e w1 ⟨rfl, hb1⟩) | (go_at_call 103; refine (in_any c partR _ _ _ (by decide) (intsAt_new' _ partR 3 _ (by first | rfl | simp))).mono ?_; rintro e w1 ⟨rfl, rfl⟩))
    go_ret
    exact ⟨by rw [HV.out]; rfl, bel_alloc hb1 _⟩
end Go.Proofs.YteejjkfmmhegmaaGreatDoor
