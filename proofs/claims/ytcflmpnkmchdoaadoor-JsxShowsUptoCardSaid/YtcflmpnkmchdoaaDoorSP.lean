/- Plain laws for the reference's Shown: lines found one by one, blanks taken one by one, pieces joined one by one. No program in sight. -/
import Derived.Test.YtcflmpnkmchdoaaDoorY
import Derived.Test.YtcflmpnkmchdoaaDoorK
namespace Go.Proofs.YtcflmpnkmchdoaaDoor

/-- lines found up to place k; the one under way began at a. -/
structure LineR (s : ByteArray) (a k : Nat) (acc : List (List UInt8)) : Prop where
  eq : linesL s.data.toList = acc ++ linesL (s.data.toList.drop a)
  none : Lib.NoAny (s.data.toList.drop a) [10, 13] (k - a)
  le : a ≤ k
  len : acc.length ≤ k
theorem lineR_start (s : ByteArray) : LineR s 0 0 [] := ⟨by simp, fun j _ h => by omega, Nat.le_refl _, Nat.le_refl _⟩
theorem drop_at (s : ByteArray) {a k : Nat} (h : k < s.size) (ha : a ≤ k) : (s.data.toList.drop a)[k - a]? = some s[k] := by
  rw [List.getElem?_drop, show a + (k - a) = k by omega, get_data s k h]
theorem lineR_other {s : ByteArray} {a k : Nat} {acc : List (List UInt8)} (h : LineR s a k acc) (hk : k < s.size) (h1 : s[k] ≠ 10) (h2 : s[k] ≠ 13) : LineR s a (k + 1) acc := by
  refine ⟨h.eq, ?_, by have := h.le; omega, by have := h.len; omega⟩
  rw [show k + 1 - a = (k - a) + 1 by have := h.le; omega]
  exact h.none.succ (drop_at s hk h.le) (by simp [h1, h2])
theorem lineR_end {s : ByteArray} {a k : Nat} {acc : List (List UInt8)} (h : LineR s a k acc) (hk : k < s.size) (c : UInt8) (hc : s[k] = c) (h1 : c = 10 ∨ c = 13) :
    linesL s.data.toList = (acc ++ [(s.extract a k).data.toList]) ++ linesL (s.data.toList.drop (if c = 13 ∧ s.data.toList[k + 1]? = some 10 then k + 2 else k + 1)) := by
  have hle := h.le
  have hl := lines_at (s.data.toList.drop a) (k - a) c h.none (by rw [drop_at s hk hle, hc]) (by rcases h1 with rfl | rfl <;> decide)
  rw [h.eq, hl, Lib.extract_data, List.append_assoc]
  have e1 : (s.data.toList.drop a)[k - a + 1]? = s.data.toList[k + 1]? := by rw [List.getElem?_drop]; congr 1; omega
  rw [e1, List.drop_drop]
  congr 1
  show _ :: _ = _ :: _
  congr 2
  split <;> · congr 1; omega
theorem lineR_10 {s : ByteArray} {a k : Nat} {acc : List (List UInt8)} (h : LineR s a k acc) (hk : k < s.size) (hc : s[k] = 10) : LineR s (k + 1) (k + 1) (acc ++ [(s.extract a k).data.toList]) := by
  have := lineR_end h hk 10 hc (.inl rfl)
  rw [if_neg (fun h => absurd h.1 (by decide))] at this
  exact ⟨this, fun j _ h => by omega, Nat.le_refl _, by have := h.len; simp; omega⟩
theorem lineR_1310 {s : ByteArray} {a k : Nat} {acc : List (List UInt8)} (h : LineR s a k acc) (hk : k < s.size) (hc : s[k] = 13) (hk' : k + 1 < s.size) (hd : s[k + 1] = 10) : LineR s (k + 2) (k + 2) (acc ++ [(s.extract a k).data.toList]) := by
  have := lineR_end h hk 13 hc (.inr rfl)
  rw [if_pos ⟨rfl, by rw [get_data s _ hk', hd]⟩] at this
  exact ⟨this, fun j _ h => by omega, Nat.le_refl _, by have := h.len; simp; omega⟩
theorem lineR_13 {s : ByteArray} {a k : Nat} {acc : List (List UInt8)} (h : LineR s a k acc) (hk : k < s.size) (hc : s[k] = 13) (hd : ∀ hk' : k + 1 < s.size, s[k + 1] ≠ 10) : LineR s (k + 1) (k + 1) (acc ++ [(s.extract a k).data.toList]) := by
  have := lineR_end h hk 13 hc (.inr rfl)
  have hn : ¬ ((13 : UInt8) = 13 ∧ s.data.toList[k + 1]? = some 10) := by
    rintro ⟨_, hx⟩
    by_cases hk' : k + 1 < s.size
    · rw [get_data s _ hk'] at hx
      exact hd hk' (by simpa using hx)
    · rw [List.getElem?_eq_none (by rw [ofl]; omega)] at hx
      cases hx
  rw [if_neg hn] at this
  exact ⟨this, fun j _ h => by omega, Nat.le_refl _, by have := h.len; simp; omega⟩
theorem lineR_done {s : ByteArray} {a : Nat} {acc : List (List UInt8)} (h : LineR s a s.size acc) : linesL s.data.toList = acc ++ [(s.extract a s.size).data.toList] := by
  rw [h.eq, Lib.extract_data, lines_none (s.data.toList.drop a) (by
    have := h.none
    rw [List.length_drop, ofl]
    exact this)]
  congr 2
  rw [List.take_of_length_le (by rw [List.length_drop, ofl]; exact Nat.le_refl _)]

/-- what is left of a line while blanks are taken from its head: if they are (b). -/
def leftL (b : Bool) (l : List UInt8) : List UInt8 := if b then Lib.trimLeftS l [32, 9] else l
def rightL (b : Bool) (l : List UInt8) : List UInt8 := if b then Lib.trimRightS l [32, 9] else l
theorem piece_of (n k : Nat) (l : List UInt8) : pieceL n k l = rightL (decide (k + 1 < n)) (leftL (decide (0 < k)) l) := by
  unfold pieceL rightL leftL
  by_cases h1 : k + 1 < n
  · by_cases h2 : 0 < k <;> simp [h1, h2]
  · by_cases h2 : 0 < k <;> simp [h1, h2]
theorem left_step (X : ByteArray) (h : 0 < X.size) (hc : X[0] = 32 ∨ X[0] = 9) : Lib.trimLeftS (X.extract 1 X.size).data.toList [32, 9] = Lib.trimLeftS X.data.toList [32, 9] := by
  have e : X.data.toList = X[0] :: X.data.toList.drop 1 := by
    have := drop_cons X 0 h
    simpa using this
  have e2 : (X.extract 1 X.size).data.toList = X.data.toList.drop 1 := by
    rw [Lib.extract_data, List.take_of_length_le]
    rw [List.length_drop, ofl]
    exact Nat.le_refl _
  conv => rhs; rw [e]
  rw [e2]
  unfold Lib.trimLeftS
  conv => rhs; rw [List.dropWhile_cons]
  rw [if_pos (by rcases hc with h | h <;> rw [h] <;> decide)]
theorem left_stop (X : ByteArray) (hc : ∀ h : 0 < X.size, X[0] ≠ 32 ∧ X[0] ≠ 9) : Lib.trimLeftS X.data.toList [32, 9] = X.data.toList := by
  by_cases h : 0 < X.size
  · have e : X.data.toList = X[0] :: X.data.toList.drop 1 := by
      have := drop_cons X 0 h
      simpa using this
    rw [e]
    unfold Lib.trimLeftS
    rw [List.dropWhile_cons, if_neg]
    have := hc h
    simp [this.1, this.2]
  · have : X.data.toList = [] := List.length_eq_zero_iff.1 (by rw [ofl]; omega)
    rw [this]
    rfl
theorem last_of (X : ByteArray) (h : 0 < X.size) : X.data.toList = (X.extract 0 (X.size - 1)).data.toList ++ [X[X.size - 1]] := by
  rw [Lib.extract_data, List.drop_zero, Nat.sub_zero]
  have h1 : X.size - 1 < X.data.toList.length := by rw [ofl]; omega
  have h2 := List.take_succ_eq_append_getElem h1
  rw [List.take_of_length_le (by rw [ofl]; omega)] at h2
  exact h2
theorem right_step (X : ByteArray) (h : 0 < X.size) (hc : X[X.size - 1] = 32 ∨ X[X.size - 1] = 9) : Lib.trimRightS (X.extract 0 (X.size - 1)).data.toList [32, 9] = Lib.trimRightS X.data.toList [32, 9] := by
  conv => rhs; rw [last_of X h]
  unfold Lib.trimRightS
  rw [List.reverse_append]
  show _ = ((X[X.size - 1] :: (X.extract 0 (X.size - 1)).data.toList.reverse).dropWhile _).reverse
  rw [List.dropWhile_cons, if_pos (by rcases hc with h | h <;> rw [h] <;> decide)]
theorem right_stop (X : ByteArray) (hc : ∀ h : 0 < X.size, X[X.size - 1] ≠ 32 ∧ X[X.size - 1] ≠ 9) : Lib.trimRightS X.data.toList [32, 9] = X.data.toList := by
  by_cases h : 0 < X.size
  · rw [last_of X h]
    unfold Lib.trimRightS
    rw [List.reverse_append]
    show ((X[X.size - 1] :: (X.extract 0 (X.size - 1)).data.toList.reverse).dropWhile _).reverse = _
    have := hc h
    rw [List.dropWhile_cons, if_neg (by simp [this.1, this.2])]
    simp
  · have : X.data.toList = [] := List.length_eq_zero_iff.1 (by rw [ofl]; omega)
    rw [this]
    rfl
/-- pieces joined up to line k. -/
structure OutR (L : List (List UInt8)) (k : Nat) (O : ByteArray) (dn : List (List UInt8)) : Prop where
  eq : outs L.length 0 L = dn ++ outs L.length k (L.drop k)
  out : O.data.toList = Lib.join dn [32]
theorem outR_start (L : List (List UInt8)) : OutR L 0 ⟨#[]⟩ [] := ⟨by simp, rfl⟩
theorem outR_size {L : List (List UInt8)} {k : Nat} {O : ByteArray} {dn : List (List UInt8)} (h : OutR L k O dn) : O.size ≤ sumL L := by
  have h1 := join_len dn
  rw [← h.out, ofl] at h1
  have h2 := sumL_outs L.length L 0
  rw [h.eq] at h2
  have h3 : ∀ a b : List (List UInt8), sumL a ≤ sumL (a ++ b) := fun a b => by
    induction a with
    | nil => simp [sumL]
    | cons x a ih => simp only [List.cons_append, sumL]; omega
  have := h3 dn (outs L.length k (L.drop k))
  omega
theorem outR_skip {L : List (List UInt8)} {k : Nat} {O : ByteArray} {dn : List (List UInt8)} (h : OutR L k O dn) (hk : k < L.length) (hp : pieceL L.length k L[k] = []) : OutR L (k + 1) O dn := by
  refine ⟨?_, h.out⟩
  rw [h.eq, List.drop_eq_getElem_cons hk, outs, if_pos hp]
theorem outR_first {L : List (List UInt8)} {k : Nat} {O X : ByteArray} {dn : List (List UInt8)} (h : OutR L k O dn) (hk : k < L.length) (hp : pieceL L.length k L[k] = X.data.toList) (hx : X.data.toList ≠ []) (hd : dn = []) : OutR L (k + 1) (O ++ X) (dn ++ [X.data.toList]) := by
  refine ⟨?_, ?_⟩
  · rw [h.eq, List.drop_eq_getElem_cons hk, outs, hp, if_neg hx, List.append_assoc]
    rfl
  · rw [join_snoc, if_pos hd, ByteArray.data_append, Array.toList_append, h.out, hd]
    rfl
theorem outR_more {L : List (List UInt8)} {k : Nat} {O X : ByteArray} {dn : List (List UInt8)} (h : OutR L k O dn) (hk : k < L.length) (hp : pieceL L.length k L[k] = X.data.toList) (hx : X.data.toList ≠ []) (hd : dn ≠ []) : OutR L (k + 1) (O ++ ⟨#[32]⟩ ++ X) (dn ++ [X.data.toList]) := by
  refine ⟨?_, ?_⟩
  · rw [h.eq, List.drop_eq_getElem_cons hk, outs, hp, if_neg hx, List.append_assoc]
    rfl
  · rw [join_snoc, if_neg hd, ByteArray.data_append, ByteArray.data_append, Array.toList_append, Array.toList_append, h.out]
theorem outR_done {s : ByteArray} {O : ByteArray} {dn : List (List UInt8)} (h : OutR (linesL s.data.toList) (linesL s.data.toList).length O dn) : O.data.toList = shownL s.data.toList := by
  unfold shownL
  rw [h.eq, List.drop_length, h.out]
  simp [outs]
end Go.Proofs.YtcflmpnkmchdoaaDoor
