/- Plain functions of lists of bytes: what package num reads of a number. No program in sight. -/
import Derived.Lib.Strings
namespace Go.Proofs.YteejjkfmmhegmaaGreatDoor

/-- is c a digit of the base with letter b? -/
def isD (b : Nat) (c : UInt8) : Bool :=
  if 48 ≤ c.toNat ∧ c.toNat ≤ 49 then true
  else if 50 ≤ c.toNat ∧ c.toNat ≤ 55 then decide (b ≠ 98)
  else if 56 ≤ c.toNat ∧ c.toNat ≤ 57 then decide (b ≠ 98 ∧ b ≠ 111)
  else decide (b = 120 ∧ 97 ≤ (c.toNat ||| 32) ∧ (c.toNat ||| 32) ≤ 102 ∧ 65 ≤ c.toNat)
/-- may a _ be followed by this? -/
def headD (b : Nat) : List UInt8 → Bool
  | [] => false
  | c :: _ => isD b c
/-- how long the digits are, with a _ between two; p: a digit stands ahead. -/
def runN (b : Nat) : Bool → List UInt8 → Nat
  | _, [] => 0
  | p, c :: l => if isD b c = true then runN b true l + 1 else if c = 95 ∧ p = true ∧ headD b l = true then runN b false l + 1 else 0
theorem runN_le (b : Nat) : ∀ (p : Bool) (l : List UInt8), runN b p l ≤ l.length
  | _, [] => Nat.le_refl _
  | p, c :: l => by
    rw [runN, List.length_cons]
    have h1 := runN_le b true l
    have h2 := runN_le b false l
    split
    · omega
    · split <;> omega
theorem isD_95 (b : Nat) : isD b 95 = false := by
  unfold isD
  rw [if_neg (by decide), if_neg (by decide), if_neg (by decide)]
  have : ¬ (b = 120 ∧ 97 ≤ ((95 : UInt8).toNat ||| 32) ∧ ((95 : UInt8).toNat ||| 32) ≤ 102 ∧ 65 ≤ (95 : UInt8).toNat) := fun h => absurd h.2.2.1 (by decide)
  exact decide_eq_false this
end Go.Proofs.YteejjkfmmhegmaaGreatDoor
