/- Plain laws: a text that is shown shows itself and has the words of the text; a text of one line is shown as it stands. No program in sight. -/
import Derived.Test.YtcflmpnkmchdoaaDoorQ
import Derived.Test.YtcflmpnkmchdoaaDoorR
namespace Go.Proofs.YtcflmpnkmchdoaaDoor

theorem wordsGo_blank (c : UInt8) (h : isW c = true) (b : List UInt8) : ∀ (a cur : List UInt8), wordsGo cur (a ++ c :: b) = wordsGo cur a ++ wordsGo [] b
  | [], cur => by
    rw [List.nil_append]
    simp only [wordsGo, h, if_true]
    split <;> simp
  | d :: a, cur => by
    rw [List.cons_append, wordsGo, wordsGo]
    split
    · rw [wordsGo_blank c h b a []]
      split <;> simp
    · rw [wordsGo_blank c h b a (cur ++ [d])]
theorem wordsL_nil : wordsL [] = [] := rfl
theorem wordsL_mid (a b : List UInt8) (c : UInt8) (h : isW c = true) : wordsL (a ++ c :: b) = wordsL a ++ wordsL b := wordsGo_blank c h b a []
theorem wordsL_cons (b : List UInt8) (c : UInt8) (h : isW c = true) : wordsL (c :: b) = wordsL b := wordsL_mid [] b c h
theorem wordsL_snoc (a : List UInt8) (c : UInt8) (h : isW c = true) : wordsL (a ++ [c]) = wordsL a := by rw [wordsL_mid a [] c h, wordsL_nil, List.append_nil]
theorem blank_of {c : UInt8} (h : ([32, 9] : List UInt8).contains c = true) : isW c = true := by
  have : c = 32 ∨ c = 9 := by simpa using h
  rcases this with rfl | rfl <;> decide
theorem words_trimLeft : ∀ l : List UInt8, wordsL (Lib.trimLeftS l [32, 9]) = wordsL l
  | [] => rfl
  | c :: l => by
    unfold Lib.trimLeftS
    rw [List.dropWhile_cons]
    split
    · rename_i h
      rw [wordsL_cons _ _ (blank_of h)]
      exact words_trimLeft l
    · rfl
theorem words_trimRev : ∀ m : List UInt8, wordsL ((m.dropWhile (([32, 9] : List UInt8).contains ·)).reverse) = wordsL m.reverse
  | [] => rfl
  | c :: m => by
    rw [List.dropWhile_cons]
    split
    · rename_i h
      rw [List.reverse_cons, wordsL_snoc _ _ (blank_of h)]
      exact words_trimRev m
    · rfl
theorem words_trimRight (l : List UInt8) : wordsL (Lib.trimRightS l [32, 9]) = wordsL l := by
  have h := words_trimRev l.reverse
  rw [List.reverse_reverse] at h
  exact h
theorem words_piece (n k : Nat) (l : List UInt8) : wordsL (pieceL n k l) = wordsL l := by
  unfold pieceL
  split
  · rw [words_trimRight]; split
    · exact words_trimLeft l
    · rfl
  · split
    · exact words_trimLeft l
    · rfl
theorem words_outs (n : Nat) : ∀ (ls : List (List UInt8)) (k : Nat), (outs n k ls).flatMap wordsL = ls.flatMap wordsL
  | [], _ => rfl
  | l :: ls, k => by
    rw [outs]
    split
    · rename_i h
      rw [words_outs n ls, List.flatMap_cons, ← words_piece n k l, h, wordsL_nil, List.nil_append]
    · rw [List.flatMap_cons, List.flatMap_cons, words_outs n ls, words_piece]
theorem join_two (x y : List UInt8) (ls : List (List UInt8)) : Lib.join (x :: y :: ls) [32] = x ++ [32] ++ Lib.join (y :: ls) [32] := by
  rw [Lib.join_cons x, Lib.join_cons y]
  simp [Lib.joinTail]
theorem words_join : ∀ ls : List (List UInt8), wordsL (Lib.join ls [32]) = ls.flatMap wordsL
  | [] => rfl
  | [x] => by simp [Lib.join]
  | x :: y :: ls => by
    have h := words_join (y :: ls)
    rw [List.flatMap_cons, ← h]
    rw [join_two, List.append_assoc]
    exact wordsL_mid x _ 32 (by decide)
theorem words_lines : ∀ (n : Nat) (l cur x : List UInt8) (xs : List (List UInt8)), l.length ≤ n → linesL l = x :: xs → wordsGo cur l = wordsGo cur x ++ xs.flatMap wordsL := by
  intro n
  induction n with
  | zero =>
    intro l cur x xs hn hl
    have : l = [] := List.length_eq_zero_iff.1 (by omega)
    subst this
    rw [linesL] at hl
    cases hl
    simp
  | succ n ih =>
    intro l cur x xs hn hl
    have all : ∀ m : List UInt8, m.length ≤ n → wordsL m = (linesL m).flatMap wordsL := fun m hm => by
      cases e : linesL m with
      | nil => exact absurd e (linesL_ne m)
      | cons y ys => rw [List.flatMap_cons]; exact ih m [] y ys hm e
    cases l with
    | nil => rw [linesL] at hl; cases hl; simp
    | cons c l =>
      simp only [List.length_cons] at hn
      by_cases h1 : c = 10
      · subst h1
        rw [linesL_10] at hl
        cases hl
        rw [← all l (by omega)]
        exact wordsGo_blank 10 (by decide) l [] cur
      by_cases h2 : c = 13
      · subst h2
        rw [linesL_13] at hl
        cases hl
        rw [show wordsGo cur (13 :: l) = wordsGo cur [] ++ wordsL l from wordsGo_blank 13 (by decide) l [] cur]
        split
        · rename_i h
          rw [← all _ (by rw [List.length_drop]; omega)]
          cases l with
          | nil => rfl
          | cons d l =>
            simp at h
            subst h
            rw [wordsL_cons l 10 (by decide)]
            rfl
        · rw [← all _ (by omega)]
      · obtain ⟨y, ys, e1, e2⟩ := linesL_other c l h1 h2
        rw [e2] at hl
        cases hl
        rw [wordsGo, wordsGo]
        split
        · rw [ih l [] y xs (by omega) e1]
          split <;> simp
        · exact ih l (cur ++ [c]) y xs (by omega) e1
/-- what is shown has the words of the text. -/
theorem words_shown (s : List UInt8) : wordsL (shownL s) = wordsL s := by
  unfold shownL
  rw [words_join, words_outs]
  cases e : linesL s with
  | nil => exact absurd e (linesL_ne s)
  | cons y ys =>
    rw [List.flatMap_cons]
    exact (words_lines s.length s [] y ys (Nat.le_refl _) e).symm

/-- no line's end. -/
def oneLine (l : List UInt8) : Prop := ∀ c ∈ l, c ≠ 10 ∧ c ≠ 13
theorem lines_one (l : List UInt8) (h : oneLine l) : linesL l = [l] := by
  refine lines_none l fun j b _ hb => ?_
  have := h b (List.mem_of_getElem? hb)
  simp [this.1, this.2]
/-- a text of one line is shown as it stands. -/
theorem shown_one (l : List UInt8) (h : oneLine l) : shownL l = l := by
  unfold shownL
  rw [lines_one l h]
  show Lib.join (outs 1 0 [l]) [32] = l
  have e : pieceL 1 0 l = l := rfl
  rw [outs, e]
  split
  · rename_i h0; rw [h0]; rfl
  · simp [outs, Lib.join]
theorem lines_all : ∀ (n : Nat) (l : List UInt8), l.length ≤ n → ∀ x ∈ linesL l, oneLine x := by
  intro n
  induction n with
  | zero =>
    intro l hn x hx
    have : l = [] := List.length_eq_zero_iff.1 (by omega)
    subst this
    rw [linesL] at hx
    simp at hx
    subst hx
    intro c hc
    cases hc
  | succ n ih =>
    intro l hn x hx
    have nil : oneLine [] := fun c hc => by cases hc
    cases l with
    | nil => rw [linesL] at hx; simp at hx; subst hx; exact nil
    | cons c l =>
      simp only [List.length_cons] at hn
      by_cases h1 : c = 10
      · subst h1
        rw [linesL_10] at hx
        rcases List.mem_cons.1 hx with rfl | hx
        · exact nil
        · exact ih l (by omega) x hx
      by_cases h2 : c = 13
      · subst h2
        rw [linesL_13] at hx
        rcases List.mem_cons.1 hx with rfl | hx
        · exact nil
        · refine ih _ ?_ x hx
          split
          · rw [List.length_drop]; omega
          · omega
      · obtain ⟨y, ys, e1, e2⟩ := linesL_other c l h1 h2
        rw [e2] at hx
        rcases List.mem_cons.1 hx with rfl | hx
        · intro d hd
          rcases List.mem_cons.1 hd with rfl | hd
          · exact ⟨h1, h2⟩
          · exact ih l (by omega) y (by rw [e1]; exact List.mem_cons_self) d hd
        · exact ih l (by omega) x (by rw [e1]; exact List.mem_cons_of_mem _ hx)
theorem piece_sub (n k : Nat) (l : List UInt8) : ∀ c ∈ pieceL n k l, c ∈ l := by
  have hl : ∀ c ∈ (if 0 < k then Lib.trimLeftS l [32, 9] else l), c ∈ l := by
    intro c hc
    split at hc
    · exact (List.dropWhile_sublist _).subset hc
    · exact hc
  intro c hc
  unfold pieceL at hc
  split at hc
  · refine hl c ?_
    unfold Lib.trimRightS at hc
    rw [List.mem_reverse] at hc
    have := (List.dropWhile_sublist _).subset hc
    rwa [List.mem_reverse] at this
  · exact hl c hc
theorem outs_one (n : Nat) : ∀ (ls : List (List UInt8)) (k : Nat), (∀ x ∈ ls, oneLine x) → ∀ x ∈ outs n k ls, oneLine x
  | [], _, _, x, hx => by simp [outs] at hx
  | l :: ls, k, h, x, hx => by
    have ih := outs_one n ls (k + 1) (fun y hy => h y (List.mem_cons_of_mem _ hy))
    rw [outs] at hx
    split at hx
    · exact ih x hx
    · rcases List.mem_cons.1 hx with rfl | hx
      · exact fun c hc => h l List.mem_cons_self c (piece_sub n k l c hc)
      · exact ih x hx
theorem join_one : ∀ ls : List (List UInt8), (∀ x ∈ ls, oneLine x) → oneLine (Lib.join ls [32])
  | [], _ => fun c hc => by cases hc
  | [x], h => by simpa [Lib.join] using h x (by simp)
  | x :: y :: ls, h => by
    have ih := join_one (y :: ls) (fun z hz => h z (List.mem_cons_of_mem _ hz))
    have e : Lib.join (x :: y :: ls) [32] = x ++ [32] ++ Lib.join (y :: ls) [32] := join_two x y ls
    rw [e]
    intro c hc
    simp only [List.append_assoc, List.mem_append, List.mem_singleton] at hc
    rcases hc with hc | rfl | hc
    · exact h x List.mem_cons_self c hc
    · decide
    · exact ih c hc
theorem shown_line (s : List UInt8) : oneLine (shownL s) := join_one _ (outs_one _ _ _ (lines_all s.length s (Nat.le_refl _)))
/-- what is shown shows itself. -/
theorem shown_shown (s : List UInt8) : shownL (shownL s) = shownL s := shown_one _ (shown_line s)
end Go.Proofs.YtcflmpnkmchdoaaDoor
