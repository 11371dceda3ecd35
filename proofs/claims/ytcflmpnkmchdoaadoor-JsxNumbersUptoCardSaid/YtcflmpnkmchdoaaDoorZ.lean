/- Plain laws: digits that are laid from the last one on are read as their number; a number's entity stands for it. No program in sight. -/
import Derived.Test.YtcflmpnkmchdoaaDoorP
namespace Go.Proofs.YtcflmpnkmchdoaaDoor

/-- digits of a base that are read, behind y, as x: what a loop that lays the last digit first keeps. -/
structure DigL (base x y : Nat) (l : List UInt8) : Prop where
  read : numGo base (min y 1114112) l = some (min x 1114112)
  all : ∀ c ∈ l, hexV c < base ∧ isN c = true ∧ c ≠ 120
  len : l.length + y ≤ x + 1
theorem digL_nil (base x : Nat) : DigL base x x [] := ⟨rfl, fun _ h => (by cases h), by simp⟩
theorem digL_cons {base x y : Nat} {l : List UInt8} {c : UInt8} (h : DigL base x y l) (hb : 2 ≤ base) (hy : 0 < y ∨ l = []) (hc : hexV c = y % base) (hn : isN c = true) (h120 : c ≠ 120) : DigL base x (y / base) (c :: l) := by
  have hlt : y % base < base := Nat.mod_lt _ (by omega)
  have hdm := Nat.div_add_mod y base
  refine ⟨?_, ?_, ?_⟩
  · rw [numGo, if_pos (by rw [hc]; exact hlt), hc]
    have e : min (min (y / base) 1114112 * base + y % base) 1114112 = min y 1114112 := by
      by_cases hq : y / base ≤ 1114112
      · rw [Nat.min_eq_left hq, Nat.mul_comm, hdm]
      · have h1 : 1114112 ≤ y := Nat.le_trans (Nat.le_of_lt (Nat.lt_of_not_le hq)) (Nat.div_le_self _ _)
        rw [Nat.min_eq_right (Nat.le_of_lt (Nat.lt_of_not_le hq)), Nat.min_eq_right h1, Nat.min_eq_right]
        have : 1114112 * 2 ≤ 1114112 * base := Nat.mul_le_mul_left _ hb
        omega
    rw [e]
    exact h.read
  · intro d hd
    rcases List.mem_cons.1 hd with rfl | hd
    · exact ⟨by rw [hc]; exact hlt, hn, h120⟩
    · exact h.all d hd
  · have := h.len
    rw [List.length_cons]
    rcases hy with hy | hy
    · have : y / base ≤ y / 2 := Nat.div_le_div_left hb (by omega)
      omega
    · subst hy
      have : y / base ≤ y / 2 := Nat.div_le_div_left hb (by omega)
      simp at *
      omega
/-- digits of a number. -/
structure DigT (base x : Nat) (l : List UInt8) : Prop where
  nonempty : l ≠ []
  read : numGo base 0 l = some (min x 1114112)
  all : ∀ c ∈ l, hexV c < base ∧ isN c = true ∧ c ≠ 120
  len : l.length ≤ x + 1
theorem digT_of {base x : Nat} {l : List UInt8} (h : DigL base x 0 l) (hl : l ≠ []) : DigT base x l := ⟨hl, by simpa using h.read, h.all, by simpa using h.len⟩
theorem digT_zero {base x : Nat} {l : List UInt8} (hb : 1 ≤ base) (h : DigT base x l) : ∀ z : Nat, numGo base 0 (List.replicate z 48 ++ l) = some (min x 1114112)
  | 0 => by simpa using h.read
  | z + 1 => by
    rw [List.replicate_succ, List.cons_append, numGo, if_pos (show hexV 48 < base from by show 0 < base; omega)]
    have : min (0 * base + hexV 48) 1114112 = 0 := by
      have : hexV 48 = 0 := rfl
      rw [this, Nat.zero_mul]; rfl
    rw [this]
    exact digT_zero hb h z
theorem tw_all {p : UInt8 → Bool} {a : List UInt8} {c : UInt8} (h : ∀ x ∈ a, p x = true) (hc : p c = false) : (a ++ [c]).takeWhile p = a := by
  induction a with
  | nil => simp [hc]
  | cons x a ih =>
    rw [List.cons_append, List.takeWhile_cons, if_pos (h x (by simp)), ih (fun y hy => h y (by simp [hy]))]
/-- what a number is answered with. -/
def numAns (x : Nat) : Nat ⊕ List UInt8 := if x ≤ 1114111 ∧ ¬ (55296 ≤ x ∧ x ≤ 57343) then .inr (98 :: Lib.encodeRune x) else .inl 1
theorem num3_ok {x : Nat} (h : x ≤ 1114111 ∧ ¬ (55296 ≤ x ∧ x ≤ 57343)) : num3 (min x 1114112, true) = (x, true, true) := by
  unfold num3
  have e : min x 1114112 = x := by omega
  rw [e]
  have h1 : (x / 2048 == 27) = false := by
    rw [beq_eq_false_iff_ne]
    omega
  have h2 : decide (x ≤ 1114111) = true := decide_eq_true h.1
  simp [h1, h2]
theorem num3_bad {x : Nat} (h : ¬ (x ≤ 1114111 ∧ ¬ (55296 ≤ x ∧ x ≤ 57343))) : (num3 (min x 1114112, true)).2.2 = false := by
  unfold num3
  by_cases h1 : x ≤ 1114111
  · have : 55296 ≤ x ∧ x ≤ 57343 := Decidable.byContradiction fun h2 => h ⟨h1, h2⟩
    have e : min x 1114112 = x := by omega
    rw [e]
    have : (x / 2048 == 27) = true := by
      rw [beq_iff_eq]
      omega
    simp [this]
  · have e : ¬ (min x 1114112 ≤ 1114111) := by omega
    simp [e]
theorem ents_num (q : List UInt8) (x : Nat) (hq : ∀ c ∈ q, isN c = true) (he : entR q = num3 (min x 1114112, true)) : entities (98 :: 38 :: (q ++ [59])) = numAns x := by
  have hn : nameOf (q ++ [59]) = q := tw_all hq (by decide)
  have ha : entAt (q ++ [59]) = num3 (min x 1114112, true) := by
    unfold entAt
    rw [hn, if_pos (by simp), he]
  unfold entities
  rw [show (98 :: 38 :: (q ++ [59])).length = (q ++ [59]).length + 1 + 1 from rfl, ents_other _ _ _ _ (by decide)]
  unfold numAns
  by_cases h : x ≤ 1114111 ∧ ¬ (55296 ≤ x ∧ x ≤ 57343)
  · have h3 := num3_ok h
    rw [if_pos h, ents_is _ _ _ (by rw [ha, h3]) (by rw [ha, h3]), ha, h3, hn]
    have : (q ++ [59]).drop (q.length + 1) = [] := by simp
    rw [this, ents_nil]
    simp [pre]
  · rw [if_neg h, ents_bad _ _ _ (by rw [ha]; exact num3_bad h)]
    rfl
theorem numR_of {base x : Nat} {l : List UInt8} (hb : 1 ≤ base) (h : DigT base x l) (z : Nat) : numR base (List.replicate z 48 ++ l) = (min x 1114112, true) := by
  unfold numR
  rw [digT_zero hb h z]
  have := h.nonempty
  cases l <;> simp_all
theorem zeros_all {base x : Nat} {l : List UInt8} (h : DigT base x l) (z : Nat) : ∀ c ∈ List.replicate z 48 ++ l, isN c = true := by
  intro c hc
  rcases List.mem_append.1 hc with hc | hc
  · rw [(List.mem_replicate.1 hc).2]; decide
  · exact (h.all c hc).2.1
/-- &#..; stands for its number. -/
theorem ents_dec {x : Nat} {l : List UInt8} (h : DigT 10 x l) (z : Nat) : entities ([98, 38, 35] ++ List.replicate z 48 ++ l ++ [59]) = numAns x := by
  have := ents_num (35 :: (List.replicate z 48 ++ l)) x (fun c hc => by
    rcases List.mem_cons.1 hc with rfl | hc
    · decide
    · exact zeros_all h z c hc) (by
    unfold entR
    have h1 : Lib.hasPrefix (35 :: (List.replicate z 48 ++ l)) [35, 120] = false := by
      have hne : (List.replicate z (48 : UInt8) ++ l)[0]? ≠ some 120 := by
        cases z with
        | zero =>
          cases hl : l with
          | nil => simp
          | cons c r =>
            have := (h.all c (by rw [hl]; simp)).2.2
            simpa using this
        | succ z => simp [List.replicate_succ]
      cases hr : List.replicate z (48 : UInt8) ++ l with
      | nil => rfl
      | cons c r =>
        rw [hr] at hne
        have : c ≠ 120 := by simpa using hne
        simp [Lib.hasPrefix, List.isPrefixOf, Ne.symm this]
    rw [if_neg (by rw [h1]; decide), if_pos (by simp [Lib.hasPrefix, List.isPrefixOf])]
    show num3 (numR 10 (List.replicate z 48 ++ l)) = _
    rw [numR_of (by decide) h z])
  rw [← this]
  simp
/-- &#x..; stands for its number. -/
theorem ents_hex {x : Nat} {l : List UInt8} (h : DigT 16 x l) (z : Nat) : entities ([98, 38, 35, 120] ++ List.replicate z 48 ++ l ++ [59]) = numAns x := by
  have := ents_num (35 :: 120 :: (List.replicate z 48 ++ l)) x (fun c hc => by
    rcases List.mem_cons.1 hc with rfl | hc
    · decide
    · rcases List.mem_cons.1 hc with rfl | hc
      · decide
      · exact zeros_all h z c hc) (by
    unfold entR
    rw [if_pos (by simp [Lib.hasPrefix, List.isPrefixOf])]
    show num3 (numR 16 (List.replicate z 48 ++ l)) = _
    rw [numR_of (by decide) h z])
  rw [← this]
  simp
/-- a digit, as Decimal lays it. -/
theorem dec_digit (y : Nat) : hexV (UInt8.ofNat (48 + y % 10)) = y % 10 ∧ isN (UInt8.ofNat (48 + y % 10)) = true ∧ UInt8.ofNat (48 + y % 10) ≠ 120 := by
  have h : ∀ k : Fin 10, hexV (UInt8.ofNat (48 + k.val)) = k.val ∧ isN (UInt8.ofNat (48 + k.val)) = true ∧ UInt8.ofNat (48 + k.val) ≠ 120 := by decide +kernel
  exact h ⟨y % 10, Nat.mod_lt _ (by decide)⟩
/-- the hex digits of the law. -/
def hexDigs : List UInt8 := [48, 49, 50, 51, 52, 53, 54, 55, 56, 57, 97, 98, 99, 68, 69, 70]
theorem hex_digit (y : Nat) : hexV (hexDigs[y % 16]!) = y % 16 ∧ isN (hexDigs[y % 16]!) = true ∧ hexDigs[y % 16]! ≠ 120 := by
  have h : ∀ k : Fin 16, hexV (hexDigs[k.val]!) = k.val ∧ isN (hexDigs[k.val]!) = true ∧ hexDigs[k.val]! ≠ 120 := by decide +kernel
  exact h ⟨y % 16, Nat.mod_lt _ (by decide)⟩
end Go.Proofs.YtcflmpnkmchdoaaDoor
