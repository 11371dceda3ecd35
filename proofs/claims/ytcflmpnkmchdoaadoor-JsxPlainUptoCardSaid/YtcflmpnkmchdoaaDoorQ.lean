/- Plain functions of lists of bytes: a text's lines, its words, what JSX shows of it. No program in sight. -/
import Derived.Lib.Strings
import Derived.Lib.IndexAny
import Derived.Lib.Join
import Derived.Lib.SlTrimSet
namespace Go.Proofs.YtcflmpnkmchdoaaDoor

/-- a text's lines. -/
def linesL : List UInt8 → List (List UInt8)
  | [] => [[]]
  | c :: l =>
    if c = 10 then [] :: linesL l
    else if c = 13 then
      match l with
      | d :: l' => if d = 10 then [] :: linesL l' else [] :: linesL (d :: l')
      | [] => [[], []]
    else match linesL l with
      | [] => [[c]]
      | x :: xs => (c :: x) :: xs
theorem linesL_cons (c : UInt8) (l : List UInt8) : linesL (c :: l) =
    if c = 10 then [] :: linesL l
    else if c = 13 then
      match l with
      | d :: l' => if d = 10 then [] :: linesL l' else [] :: linesL (d :: l')
      | [] => [[], []]
    else match linesL l with
      | [] => [[c]]
      | x :: xs => (c :: x) :: xs := by rw [linesL.eq_def]
theorem linesL_ne (l : List UInt8) : linesL l ≠ [] := by
  cases l with
  | nil => simp [linesL]
  | cons c l =>
    rw [linesL_cons]
    split
    · simp
    · split
      · cases l with
        | nil => simp
        | cons d l' => simp only; split <;> simp
      · split <;> simp
theorem linesL_13 (l : List UInt8) : linesL (13 :: l) = [] :: linesL (if l[0]? = some 10 then l.drop 1 else l) := by
  rw [linesL_cons, if_neg (by decide), if_pos rfl]
  cases l with
  | nil => rfl
  | cons d l' =>
    simp only [List.getElem?_cons_zero, Option.some.injEq, List.drop_succ_cons, List.drop_zero]
    split <;> rfl
theorem linesL_10 (l : List UInt8) : linesL (10 :: l) = [] :: linesL l := by rw [linesL_cons, if_pos rfl]
theorem linesL_other (c : UInt8) (l : List UInt8) (h1 : c ≠ 10) (h2 : c ≠ 13) : ∃ x xs, linesL l = x :: xs ∧ linesL (c :: l) = (c :: x) :: xs := by
  cases hl : linesL l with
  | nil => exact absurd hl (linesL_ne l)
  | cons x xs =>
    refine ⟨x, xs, rfl, ?_⟩
    rw [linesL_cons]
    simp only [if_neg h1, if_neg h2, hl]
/-- no line's end: one line. -/
theorem lines_none : ∀ l : List UInt8, Lib.NoAny l [10, 13] l.length → linesL l = [l]
  | [], _ => rfl
  | c :: l, h => by
    have hc := h 0 c (by simp) rfl
    have h1 : c ≠ 10 := fun e => by subst e; exact absurd hc (by decide)
    have h2 : c ≠ 13 := fun e => by subst e; exact absurd hc (by decide)
    obtain ⟨x, xs, e1, e2⟩ := linesL_other c l h1 h2
    rw [e2]
    have := lines_none l (fun j b hj hb => h (j + 1) b (by simp; omega) (by simpa using hb))
    rw [e1] at this
    cases this
    rfl
/-- the first line, and what is behind it. -/
theorem lines_at : ∀ (l : List UInt8) (i : Nat) (c : UInt8), Lib.NoAny l [10, 13] i → l[i]? = some c → [10, 13].contains c = true →
    linesL l = l.take i :: linesL (l.drop (if c = 13 ∧ l[i + 1]? = some 10 then i + 2 else i + 1))
  | [], _, _, _, h, _ => by simp at h
  | b :: l, 0, c, _, h, hc => by
    simp at h
    subst h
    have : b = 10 ∨ b = 13 := by simpa using hc
    rcases this with rfl | rfl
    · rw [linesL_10]; simp
    · rw [linesL_13]
      simp only [List.take_zero, true_and, Nat.zero_add, List.getElem?_cons_succ]
      split <;> rfl
  | b :: l, i + 1, c, hn, h, hc => by
    have hb := hn 0 b (by omega) rfl
    have h1 : b ≠ 10 := fun e => by subst e; exact absurd hb (by decide)
    have h2 : b ≠ 13 := fun e => by subst e; exact absurd hb (by decide)
    obtain ⟨x, xs, e1, e2⟩ := linesL_other b l h1 h2
    rw [e2]
    have := lines_at l i c (fun j y hj hy => hn (j + 1) y (by omega) (by simpa using hy)) (by simpa using h) hc
    rw [e1] at this
    rw [List.cons.injEq] at this
    rw [List.take_succ_cons, this.1, this.2]
    congr 2
    simp only [List.getElem?_cons_succ]
    split <;> rfl
theorem indexAny_spec (cs : List UInt8) : ∀ l : List UInt8, (Lib.indexAny l cs = -1 ∧ Lib.NoAny l cs l.length) ∨ ∃ (i : Nat) (c : UInt8), Lib.indexAny l cs = i ∧ Lib.NoAny l cs i ∧ l[i]? = some c ∧ cs.contains c = true
  | [] => .inl ⟨rfl, fun j b hj => by simp at hj⟩
  | b :: l => by
    cases hb : cs.contains b with
    | true => exact .inr ⟨0, b, by rw [Lib.indexAny, if_pos hb]; rfl, Lib.NoAny.zero _ _, rfl, hb⟩
    | false =>
      have up : ∀ k, Lib.NoAny l cs k → Lib.NoAny (b :: l) cs (k + 1) := fun k h j y hj hy => by
        cases j with
        | zero => simp at hy; subst hy; exact hb
        | succ j => exact h j y (by omega) (by simpa using hy)
      rcases indexAny_spec cs l with ⟨h1, h2⟩ | ⟨i, c, h1, h2, h3, h4⟩
      · exact .inl ⟨by rw [Lib.indexAny, if_neg (by rw [hb]; decide), h1]; rfl, up _ h2⟩
      · exact .inr ⟨i + 1, c, by rw [Lib.indexAny, if_neg (by rw [hb]; decide), h1, if_neg (fun e => by have := beq_iff_eq.1 e; omega)]; push_cast; rfl, up _ h2, by simpa using h3, h4⟩

/-- what is left of the line number k of n. -/
def pieceL (n k : Nat) (l : List UInt8) : List UInt8 :=
  if k + 1 < n then Lib.trimRightS (if 0 < k then Lib.trimLeftS l [32, 9] else l) [32, 9] else if 0 < k then Lib.trimLeftS l [32, 9] else l
/-- the lines that are left, from number k on. -/
def outs (n : Nat) : Nat → List (List UInt8) → List (List UInt8)
  | _, [] => []
  | k, l :: ls => if pieceL n k l = [] then outs n (k + 1) ls else pieceL n k l :: outs n (k + 1) ls
/-- what Shown answers. -/
def shownL (l : List UInt8) : List UInt8 := Lib.join (outs (linesL l).length 0 (linesL l)) [32]

theorem trimLeftS_len (l cs : List UInt8) : (Lib.trimLeftS l cs).length ≤ l.length := (List.dropWhile_sublist _).length_le
theorem trimRightS_len (l cs : List UInt8) : (Lib.trimRightS l cs).length ≤ l.length := by
  unfold Lib.trimRightS
  rw [List.length_reverse]
  have := (List.dropWhile_sublist (cs.contains ·) (l := l.reverse)).length_le
  simpa using this
theorem pieceL_len (n k : Nat) (l : List UInt8) : (pieceL n k l).length ≤ l.length := by
  unfold pieceL
  have h1 := trimLeftS_len l [32, 9]
  have h2 := trimRightS_len (if 0 < k then Lib.trimLeftS l [32, 9] else l) [32, 9]
  have h3 : (if 0 < k then Lib.trimLeftS l [32, 9] else l).length ≤ l.length := by split <;> omega
  split
  · omega
  · exact h3
/-- lengths, each with one more. -/
def sumL : List (List UInt8) → Nat
  | [] => 0
  | l :: ls => l.length + 1 + sumL ls
theorem sumL_outs (n : Nat) : ∀ (ls : List (List UInt8)) (k : Nat), sumL (outs n k ls) ≤ sumL ls
  | [], _ => by simp [outs, sumL]
  | l :: ls, k => by
    have := sumL_outs n ls (k + 1)
    have h := pieceL_len n k l
    rw [outs]
    split
    · simp only [sumL]; omega
    · simp only [sumL]; omega
theorem sumL_lines_aux : ∀ (m : Nat) (l : List UInt8), l.length ≤ m → sumL (linesL l) ≤ l.length + 1
  | _, [], _ => by simp [linesL, sumL]
  | 0, c :: l, h => by simp at h
  | m + 1, c :: l, h => by
    simp only [List.length_cons] at h
    have ih := sumL_lines_aux m l (by omega)
    rw [linesL_cons]
    split
    · simp only [sumL, List.length_nil, List.length_cons]; omega
    · split
      · cases l with
        | nil => simp [sumL]
        | cons d l' =>
          simp only [List.length_cons] at h ih
          have ih' := sumL_lines_aux m l' (by omega)
          simp only
          split
          · simp only [sumL, List.length_nil, List.length_cons]; omega
          · simp only [sumL, List.length_nil, List.length_cons]; omega
      · split
        · rename_i he; exact absurd he (linesL_ne l)
        · rename_i x xs he
          rw [he] at ih
          simp only [sumL, List.length_cons] at ih ⊢
          omega
theorem sumL_lines (l : List UInt8) : sumL (linesL l) ≤ l.length + 1 := sumL_lines_aux l.length l (Nat.le_refl _)
theorem length_sumL : ∀ ls : List (List UInt8), ls.length ≤ sumL ls
  | [] => by simp [sumL]
  | l :: ls => by have := length_sumL ls; simp only [sumL, List.length_cons]; omega
theorem mem_sumL {l : List UInt8} : ∀ {ls : List (List UInt8)}, l ∈ ls → l.length + 1 ≤ sumL ls
  | [], h => by simp at h
  | x :: ls, h => by
    simp only [sumL]
    rcases List.mem_cons.1 h with rfl | h
    · omega
    · have := mem_sumL h; omega
theorem joinTail_len : ∀ ls : List (List UInt8), (Lib.joinTail [32] ls).length ≤ sumL ls
  | [] => by simp [Lib.joinTail]
  | l :: ls => by
    have := joinTail_len ls
    simp only [Lib.joinTail, List.map_cons, List.flatten_cons, List.length_append, List.length_cons, List.length_nil, sumL] at this ⊢
    omega
theorem join_len (ls : List (List UInt8)) : (Lib.join ls [32]).length ≤ sumL ls := by
  cases ls with
  | nil => simp [Lib.join_nil]
  | cons l ls =>
    have := joinTail_len ls
    rw [Lib.join_cons, List.length_append]
    simp only [sumL]
    omega
theorem lines_length (l : List UInt8) : (linesL l).length ≤ l.length + 1 := Nat.le_trans (length_sumL _) (sumL_lines l)
end Go.Proofs.YtcflmpnkmchdoaaDoor
