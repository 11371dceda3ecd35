/- Plain laws of runs: a whole run is read as one whatever else stands behind it; case turns none. No program in sight. -/
import Derived.Test.YthnchejhcmpipaaDoorM
namespace Go.Proofs.YthnchejhcmpipaaDoor

/-- the text goes on with neither a digit nor _ . -/
def stops (b : Nat) (r : List UInt8) : Prop := ∀ c t, r = c :: t → isD b c = false ∧ c ≠ 95
theorem stops_nil (b : Nat) : stops b [] := fun _ _ h => by cases h
theorem stops_cons {b : Nat} {c : UInt8} {t : List UInt8} (h1 : isD b c = false) (h2 : c ≠ 95) : stops b (c :: t) := fun _ _ h => by cases h; exact ⟨h1, h2⟩
theorem runN_stops {b : Nat} {p : Bool} {r : List UInt8} (h : stops b r) : runN b p r = 0 := by
  cases r with
  | nil => rfl
  | cons c t =>
    obtain ⟨h1, h2⟩ := h c t rfl
    rw [runN, if_neg (by rw [h1]; decide), if_neg (fun e => h2 e.1)]
theorem headD_append {b : Nat} {w r : List UInt8} (h : headD b w = true) : headD b (w ++ r) = true := by
  cases w with
  | nil => cases h
  | cons c w => exact h
/-- a whole run, and what stands behind it. -/
theorem runN_append (b : Nat) : ∀ (w : List UInt8) (p : Bool) (r : List UInt8), runN b p w = w.length → stops b r → runN b p (w ++ r) = w.length
  | [], p, r, _, hr => runN_stops hr
  | c :: w, p, r, h, hr => by
    rw [List.cons_append, runN]
    rw [runN] at h
    by_cases hd : isD b c = true
    · rw [if_pos hd] at h ⊢
      rw [runN_append b w true r (by simpa using h) hr]
      rfl
    · rw [if_neg hd] at h ⊢
      by_cases hu : c = 95 ∧ p = true ∧ headD b w = true
      · rw [if_pos hu] at h
        rw [if_pos ⟨hu.1, hu.2.1, headD_append hu.2.2⟩, runN_append b w false r (by simpa using h) hr]
        rfl
      · rw [if_neg hu] at h
        simp at h
/-- what run takes is a whole run. -/
theorem runN_take (b : Nat) : ∀ (l : List UInt8) (p : Bool), runN b p (l.take (runN b p l)) = (l.take (runN b p l)).length
  | [], p => by simp [runN]
  | c :: l, p => by
    by_cases hd : isD b c = true
    · have e : runN b p (c :: l) = runN b true l + 1 := by rw [runN, if_pos hd]
      rw [e, List.take_succ_cons, runN, if_pos hd, runN_take b l true]
      rfl
    · by_cases hu : c = 95 ∧ p = true ∧ headD b l = true
      · have e : runN b p (c :: l) = runN b false l + 1 := by rw [runN, if_neg hd, if_pos hu]
        have hh : headD b (l.take (runN b false l)) = true := by
          cases l with
          | nil => exact absurd hu.2.2 (by simp [headD])
          | cons d l =>
            have h2 : isD b d = true := hu.2.2
            rw [runN, if_pos h2, List.take_succ_cons]
            exact h2
        rw [e, List.take_succ_cons, runN, if_neg hd, if_pos ⟨hu.1, hu.2.1, hh⟩, runN_take b l false]
        rfl
      · have e : runN b p (c :: l) = 0 := by rw [runN, if_neg hd, if_neg hu]
        rw [e]
        rfl
theorem take_whole {b : Nat} {w r : List UInt8} (h : runN b false w = w.length) (hr : stops b r) : runN b false (w ++ r) = w.length := runN_append b w false r h hr
/-- digits turned to other letters are digits. -/
theorem runN_map (b : Nat) (f : UInt8 → UInt8) (hf : ∀ c, isD b (f c) = isD b c) (h95 : ∀ c, f c = 95 ↔ c = 95) : ∀ (l : List UInt8) (p : Bool), runN b p (l.map f) = runN b p l
  | [], p => rfl
  | c :: l, p => by
    have hh : headD b (l.map f) = headD b l := by
      cases l with
      | nil => rfl
      | cons d l => exact hf d
    rw [List.map_cons, runN, runN, hf, hh, runN_map b f hf h95 l true, runN_map b f hf h95 l false]
    simp only [h95]
/-- a whole run's beginning that ends in a digit is a whole run. -/
theorem runN_prefix (b : Nat) (v : List UInt8) : ∀ (w : List UInt8) (p : Bool), runN b p (w ++ v) = (w ++ v).length → (∀ c, w.getLast? = some c → isD b c = true) → runN b p w = w.length
  | [], _, _, _ => rfl
  | c :: w, p, h, hl => by
    rw [List.cons_append, runN] at h
    have hl' : ∀ d, w.getLast? = some d → isD b d = true := fun d hd => hl d (by
      cases w with
      | nil => cases hd
      | cons x w => rw [List.getLast?_cons_cons]; exact hd)
    by_cases hd : isD b c = true
    · rw [if_pos hd] at h
      rw [runN, if_pos hd, runN_prefix b v w true (by simpa using h) hl']
      rfl
    · rw [if_neg hd] at h
      by_cases hu : c = 95 ∧ p = true ∧ headD b (w ++ v) = true
      · rw [if_pos hu] at h
        cases w with
        | nil => exact absurd (hl c rfl) hd
        | cons x w =>
          have hh : headD b (x :: w) = true := hu.2.2
          rw [runN, if_neg hd, if_pos ⟨hu.1, hu.2.1, hh⟩, runN_prefix b v (x :: w) false (by simpa using h) hl']
          rfl
      · rw [if_neg hu] at h
        simp at h
theorem all_bytes {P : UInt8 → Prop} (h : ∀ n : Fin 256, P (UInt8.ofNat n.val)) (c : UInt8) : P c := by
  have := h ⟨c.toNat, c.toNat_lt⟩
  simpa using this
theorem isD_lower {b : Nat} (hb : b = 120 ∨ b = 111 ∨ b = 98) (c : UInt8) : isD b (Lib.lowerB c) = isD b c := by
  rcases hb with rfl | rfl | rfl
  · exact all_bytes (P := fun c => isD 120 (Lib.lowerB c) = isD 120 c) (by decide +kernel) c
  · exact all_bytes (P := fun c => isD 111 (Lib.lowerB c) = isD 111 c) (by decide +kernel) c
  · exact all_bytes (P := fun c => isD 98 (Lib.lowerB c) = isD 98 c) (by decide +kernel) c
theorem isD_upper (c : UInt8) : isD 120 (Lib.upperB c) = isD 120 c := all_bytes (P := fun c => isD 120 (Lib.upperB c) = isD 120 c) (by decide +kernel) c
theorem lower_95 (c : UInt8) : Lib.lowerB c = 95 ↔ c = 95 := all_bytes (P := fun c => Lib.lowerB c = 95 ↔ c = 95) (by decide +kernel) c
theorem upper_95 (c : UInt8) : Lib.upperB c = 95 ↔ c = 95 := all_bytes (P := fun c => Lib.upperB c = 95 ↔ c = 95) (by decide +kernel) c
theorem lower_lower (c : UInt8) : Lib.lowerB (Lib.lowerB c) = Lib.lowerB c := all_bytes (P := fun c => Lib.lowerB (Lib.lowerB c) = Lib.lowerB c) (by decide +kernel) c
theorem lower_upper (c : UInt8) : Lib.lowerB (Lib.upperB c) = Lib.lowerB c := all_bytes (P := fun c => Lib.lowerB (Lib.upperB c) = Lib.lowerB c) (by decide +kernel) c
theorem upper_upper (c : UInt8) : Lib.upperB (Lib.upperB c) = Lib.upperB c := all_bytes (P := fun c => Lib.upperB (Lib.upperB c) = Lib.upperB c) (by decide +kernel) c
theorem plainL_map (f : UInt8 → UInt8) (h : ∀ c, f c = 95 ↔ c = 95) : ∀ l : List UInt8, plainL (l.map f) = (plainL l).map f
  | [] => rfl
  | c :: l => by
    have ih := plainL_map f h l
    unfold plainL at ih ⊢
    rw [List.map_cons, List.filter_cons, List.filter_cons, ih]
    by_cases e : c = 95
    · rw [if_neg (by simp [(h c).2 e]), if_neg (by simp [e])]
    · rw [if_pos (decide_eq_true (show f c ≠ 95 from fun x => e ((h c).1 x))), if_pos (decide_eq_true (show c ≠ 95 from e)), List.map_cons]
end Go.Proofs.YthnchejhcmpipaaDoor
