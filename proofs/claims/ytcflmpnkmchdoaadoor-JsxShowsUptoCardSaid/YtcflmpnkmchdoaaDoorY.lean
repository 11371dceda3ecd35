/- Plain law of JsxLines: what is shown of the picked lines. No program in sight. -/
import Derived.Test.YtcflmpnkmchdoaaDoorV
namespace Go.Proofs.YtcflmpnkmchdoaaDoor

/-- the four lines. -/
def itemL : Nat → List UInt8
  | 0 => [97, 32, 32, 98]
  | 1 => [32, 32, 99, 9]
  | 2 => [32, 9, 32]
  | _ => []
/-- what is left of them. -/
def wantI : Nat → List UInt8
  | 0 => [97, 32, 32, 98]
  | 1 => [99]
  | _ => []
/-- the text of picks. -/
def textOf (ks : List Nat) : List UInt8 := ks.flatMap fun k => 10 :: (itemL k ++ [13])
/-- what is wanted of them. -/
def wantL (ks : List Nat) : List (List UInt8) := (ks.map wantI).filter (· ≠ [])
theorem textOf_cons (k : Nat) (ks : List Nat) : textOf (k :: ks) = 10 :: (itemL k ++ 13 :: textOf ks) := by simp [textOf]
theorem textOf_snoc (ks : List Nat) (k : Nat) : textOf (ks ++ [k]) = textOf ks ++ [10] ++ itemL k ++ [13] := by simp [textOf]
theorem wantL_snoc (ks : List Nat) (k : Nat) : wantL (ks ++ [k]) = if wantI k = [] then wantL ks else wantL ks ++ [wantI k] := by
  unfold wantL
  rw [List.map_append, List.filter_append]
  by_cases h : wantI k = []
  · simp [h]
  · simp [h]
theorem item_one (k : Nat) : oneLine (itemL k) := by
  match k with
  | 0 => unfold oneLine; decide
  | 1 => unfold oneLine; decide
  | 2 => unfold oneLine; decide
  | _ + 3 => intro c hc; cases hc
theorem lines_13 (b : List UInt8) : ∀ a : List UInt8, oneLine a → linesL (a ++ 13 :: b) = a :: linesL (if b[0]? = some 10 then b.drop 1 else b)
  | [], _ => linesL_13 b
  | c :: a, h => by
    have hc := h c List.mem_cons_self
    have ih := lines_13 b a (fun d hd => h d (List.mem_cons_of_mem _ hd))
    obtain ⟨x, xs, e1, e2⟩ := linesL_other c (a ++ 13 :: b) hc.1 hc.2
    rw [List.cons_append, e2]
    rw [ih] at e1
    cases e1
    rfl
theorem lines_rest : ∀ (ks : List Nat) (k : Nat), linesL (itemL k ++ 13 :: textOf ks) = itemL k :: (ks.map itemL ++ [[]])
  | [], k => by
    rw [lines_13 _ _ (item_one k)]
    rfl
  | j :: ks, k => by
    rw [lines_13 _ _ (item_one k), textOf_cons, if_pos (show (10 :: (itemL j ++ 13 :: textOf ks))[0]? = some 10 from rfl)]
    show itemL k :: linesL (itemL j ++ 13 :: textOf ks) = _
    rw [lines_rest ks j]
    rfl
theorem outs_items (n : Nat) : ∀ (ks : List Nat) (j : Nat), 0 < j → j + ks.length < n → outs n j (ks.map itemL ++ [[]]) = wantL ks
  | [], j, _, _ => by
    have e : pieceL n j [] = [] := by
      unfold pieceL
      repeat' split
      all_goals rfl
    rw [List.map_nil, List.nil_append, outs, if_pos e]
    rfl
  | k :: ks, j, hj, hn => by
    simp only [List.length_cons] at hn
    have e : pieceL n j (itemL k) = wantI k := by
      unfold pieceL
      rw [if_pos (by omega), if_pos hj]
      match k with
      | 0 => decide
      | 1 => decide
      | 2 => decide
      | _ + 3 => rfl
    rw [List.map_cons, List.cons_append, outs, e, outs_items n ks (j + 1) (by omega) (by omega)]
    unfold wantL
    rw [List.map_cons, List.filter_cons]
    by_cases h : wantI k = []
    · simp [h]
    · simp [h]
theorem shown_text (ks : List Nat) : shownL (textOf ks) = Lib.join (wantL ks) [32] := by
  cases ks with
  | nil => rfl
  | cons k ks =>
    unfold shownL
    rw [textOf_cons, linesL_10, lines_rest]
    have e : pieceL ([] :: itemL k :: (ks.map itemL ++ [[]])).length 0 [] = [] := by
      unfold pieceL
      repeat' split
      all_goals rfl
    rw [outs, if_pos e]
    have h := outs_items ([] :: itemL k :: (ks.map itemL ++ [[]])).length (k :: ks) 1 (by omega) (by simp; omega)
    rw [← h]
    rfl
theorem join_snoc : ∀ (ls : List (List UInt8)) (x : List UInt8), Lib.join (ls ++ [x]) [32] = if ls = [] then x else Lib.join ls [32] ++ [32] ++ x
  | [], x => by simp [Lib.join_one]
  | [y], x => by
    rw [if_neg (by simp)]
    show Lib.join [y, x] [32] = _
    rw [join_two, Lib.join_one, Lib.join_one]
  | y :: z :: ls, x => by
    have ih := join_snoc (z :: ls) x
    rw [if_neg (by simp)] at ih ⊢
    show Lib.join (y :: z :: (ls ++ [x])) [32] = _
    rw [join_two, join_two]
    have : z :: (ls ++ [x]) = (z :: ls) ++ [x] := rfl
    rw [this, ih]
    simp
end Go.Proofs.YtcflmpnkmchdoaaDoor
