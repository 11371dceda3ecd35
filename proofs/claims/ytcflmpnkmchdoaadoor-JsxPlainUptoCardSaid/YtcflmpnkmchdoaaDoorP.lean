/- Plain functions of lists of bytes: what package jsx computes of entities. No program in sight. -/
import Derived.Lib.Strings
import Derived.Lib.RuneBytes
namespace Go.Proofs.YtcflmpnkmchdoaaDoor

/-- the value of a hex digit; 16: none. -/
def hexV (c : UInt8) : Nat :=
  if 48 ≤ c.toNat ∧ c.toNat ≤ 57 then c.toNat - 48 else if 97 ≤ (c.toNat ||| 32) ∧ (c.toNat ||| 32) ≤ 102 ∧ 65 ≤ c.toNat then (c.toNat ||| 32) - 97 + 10 else 16
theorem or32_lt (c : UInt8) : (c.toNat ||| 32) < 256 := by
  have h : ∀ n : Fin 256, (n.val ||| 32) < 256 := by decide +kernel
  exact h ⟨c.toNat, c.toNat_lt⟩
theorem hexV_le (c : UInt8) : hexV c ≤ 16 := by
  have := or32_lt c
  unfold hexV
  split
  · omega
  · split <;> omega
/-- digits of a base, from what is read on; none: there is one that is none. -/
def numGo (base : Nat) : Nat → List UInt8 → Option Nat
  | m, [] => some m
  | m, c :: l => if hexV c < base then numGo base (min (m * base + hexV c) 1114112) l else none
/-- what number answers. -/
def numR (base : Nat) (l : List UInt8) : Nat × Bool := match numGo base 0 l with | none => (0, false) | some m => (m, !l.isEmpty)
/-- the character of a name; 0: it has none. -/
def named (l : List UInt8) : Nat :=
  if (l == [97, 109, 112]) = true then 38 else if (l == [108, 116]) = true then 60 else if (l == [103, 116]) = true then 62 else if (l == [113, 117, 111, 116]) = true then 34 else
  if (l == [97, 112, 111, 115]) = true then 39 else if (l == [110, 98, 115, 112]) = true then 160 else if (l == [99, 111, 112, 121]) = true then 169 else if (l == [114, 101, 103]) = true then 174 else
  if (l == [104, 101, 108, 108, 105, 112]) = true then 8230 else if (l == [109, 100, 97, 115, 104]) = true then 8212 else if (l == [110, 100, 97, 115, 104]) = true then 8211 else 0
theorem numGo_le (base : Nat) : ∀ (l : List UInt8) (m n : Nat), m ≤ 1114112 → numGo base m l = some n → n ≤ 1114112
  | [], m, n, hm, h => by simp [numGo] at h; omega
  | c :: l, m, n, _, h => by
    rw [numGo] at h
    split at h
    · exact numGo_le base l _ n (by omega) h
    · cases h
theorem numR_le (base : Nat) (l : List UInt8) : (numR base l).1 ≤ 1114112 := by
  unfold numR
  cases h : numGo base 0 l with
  | none => simp
  | some m => exact numGo_le base l 0 m (by omega) h
theorem named_le (l : List UInt8) : named l ≤ 8230 := by
  unfold named
  repeat' split
  all_goals omega
/-- a number's character; whether it is digits; whether it may be. -/
def num3 (p : Nat × Bool) : Nat × Bool × Bool := (p.1, p.2, !p.2 || (decide (p.1 ≤ 1114111) && !(p.1 / 2048 == 27)))
/-- what entity answers. -/
def entR (l : List UInt8) : Nat × Bool × Bool :=
  if Lib.hasPrefix l [35, 120] = true then num3 (numR 16 (l.drop 2))
  else if Lib.hasPrefix l [35] = true then num3 (numR 10 (l.drop 1))
  else (named l, !(named l == 0), true)
theorem entR_le (l : List UInt8) : (entR l).1 ≤ 1114112 := by
  unfold entR
  split
  · exact numR_le _ _
  · split
    · exact numR_le _ _
    · have := named_le l; simp only; omega

/-- may a byte stand in an entity's name? -/
def isN (c : UInt8) : Bool := c.toNat == 35 || (decide (48 ≤ c.toNat) && decide (c.toNat ≤ 57)) || (decide (97 ≤ (c.toNat ||| 32)) && decide ((c.toNat ||| 32) ≤ 122))
/-- an entity's name, of a text behind a &. -/
def nameOf (l : List UInt8) : List UInt8 := l.takeWhile isN
/-- an entity that begins behind a &: its character, whether it is one, whether it may be. -/
def entAt (l : List UInt8) : Nat × Bool × Bool := if (l[(nameOf l).length]? = some 59) then entR (nameOf l) else (0, false, true)
/-- bytes ahead of an answer. -/
def pre (p : List UInt8) : Nat ⊕ List UInt8 → Nat ⊕ List UInt8
  | .inl a => .inl a
  | .inr l => .inr (p ++ l)
/-- what a text's entities stand for; else the place of the first that may not be. -/
def ents : Nat → List UInt8 → Nat → Nat ⊕ List UInt8
  | f + 1, c :: l, k =>
    if c = 38 then
      if (entAt l).2.2 = false then .inl k
      else if (entAt l).2.1 = true then pre (Lib.encodeRune (entAt l).1) (ents f (l.drop ((nameOf l).length + 1)) (k + (nameOf l).length + 2))
      else pre [c] (ents f l (k + 1))
    else pre [c] (ents f l (k + 1))
  | _, _, _ => .inr []
/-- what Entities answers. -/
def entities (l : List UInt8) : Nat ⊕ List UInt8 := ents l.length l 0

theorem pre_pre (a b : List UInt8) (x : Nat ⊕ List UInt8) : pre a (pre b x) = pre (a ++ b) x := by cases x <;> simp [pre]
theorem pre_nil (x : Nat ⊕ List UInt8) : pre [] x = x := by cases x <;> simp [pre]
theorem ents_nil (f k : Nat) : ents f [] k = .inr [] := by cases f <;> rfl
theorem ents_other (f k : Nat) (c : UInt8) (l : List UInt8) (h : c ≠ 38) : ents (f + 1) (c :: l) k = pre [c] (ents f l (k + 1)) := by rw [ents, if_neg h]
theorem ents_bad (f k : Nat) (l : List UInt8) (h : (entAt l).2.2 = false) : ents (f + 1) (38 :: l) k = .inl k := by rw [ents, if_pos rfl, if_pos h]
theorem ents_is (f k : Nat) (l : List UInt8) (h : (entAt l).2.2 = true) (h' : (entAt l).2.1 = true) :
    ents (f + 1) (38 :: l) k = pre (Lib.encodeRune (entAt l).1) (ents f (l.drop ((nameOf l).length + 1)) (k + (nameOf l).length + 2)) := by
  rw [ents, if_pos rfl, if_neg (by rw [h]; decide), if_pos h']
theorem ents_none (f k : Nat) (l : List UInt8) (h : (entAt l).2.2 = true) (h' : (entAt l).2.1 = false) : ents (f + 1) (38 :: l) k = pre [38] (ents f l (k + 1)) := by
  rw [ents, if_pos rfl, if_neg (by rw [h]; decide), if_neg (by rw [h']; decide)]

theorem tw_lt {p : UInt8 → Bool} : ∀ (l : List UInt8) (j : Nat), j < (l.takeWhile p).length → ∃ x, l[j]? = some x ∧ p x = true
  | [], j, h => by simp at h
  | c :: l, j, h => by
    rw [List.takeWhile_cons] at h
    split at h
    · rename_i hc
      cases j with
      | zero => exact ⟨c, rfl, hc⟩
      | succ j => simpa using tw_lt l j (by simpa using h)
    · simp at h
theorem tw_end {p : UInt8 → Bool} : ∀ (l : List UInt8) (x : UInt8), l[(l.takeWhile p).length]? = some x → p x = false
  | [], x, h => by simp at h
  | c :: l, x, h => by
    rw [List.takeWhile_cons] at h
    split at h
    · exact tw_end l x (by simpa using h)
    · rename_i hc
      simp at h
      rw [← h]
      simpa using hc
theorem tw_take {p : UInt8 → Bool} : ∀ (l : List UInt8), l.take (l.takeWhile p).length = l.takeWhile p
  | [] => rfl
  | c :: l => by
    rw [List.takeWhile_cons]
    split
    · simp [tw_take l]
    · rfl
theorem nameOf_le (l : List UInt8) : (nameOf l).length ≤ l.length := (List.takeWhile_sublist _).length_le

theorem or32_ge {c : UInt8} (h : 97 ≤ (c.toNat ||| 32)) : 65 ≤ c.toNat := by
  have g : ∀ n : Fin 256, 97 ≤ (n.val ||| 32) → 65 ≤ n.val := by decide +kernel
  exact g ⟨c.toNat, c.toNat_lt⟩ h
theorem isN_true {c : UInt8} (h : isN c = true) : (c.toNat = 35 ∧ (((c.toNat : Nat) : Int) == 35) = true) ∨ ((((c.toNat : Nat) : Int) == 35) = false ∧ ((48 ≤ c.toNat ∧ c.toNat ≤ 57) ∨ (57 < c.toNat ∧ 97 ≤ (c.toNat ||| 32) ∧ (c.toNat ||| 32) ≤ 122))) := by
  simp only [isN, Bool.or_eq_true, beq_iff_eq, Bool.and_eq_true, decide_eq_true_eq] at h
  rcases h with (h | h) | h
  · exact .inl ⟨h, by rw [h]; rfl⟩
  · exact .inr ⟨by rw [beq_eq_false_iff_ne]; omega, .inl h⟩
  · have := or32_ge h.1
    exact .inr ⟨by rw [beq_eq_false_iff_ne]; omega, .inr ⟨by omega, h⟩⟩
theorem isN_false {c : UInt8} (h : isN c = false) : (((c.toNat : Nat) : Int) == 35) = false ∧ (c.toNat < 48 ∨ 57 < c.toNat) ∧ ((c.toNat ||| 32) < 97 ∨ 122 < (c.toNat ||| 32)) := by
  simp only [isN, Bool.or_eq_false_iff, beq_eq_false_iff_ne, Bool.and_eq_false_iff, decide_eq_false_iff_not] at h
  exact ⟨by rw [beq_eq_false_iff_ne]; omega, by omega, by omega⟩
theorem toNat_ne {c d : UInt8} (h : c ≠ d) : c.toNat ≠ d.toNat := fun e => h (UInt8.toNat.inj e)
end Go.Proofs.YtcflmpnkmchdoaaDoor
