/- What the reader's regex computes, in plain Lean. -/
import Derived.Test.YteejjkfmmhegmaaGreatDoorLL
namespace Go.Proofs.YteejjkfmmhegmaaGreatDoor
open Go.RowKit

/-- bytes of a backslash read as a character. -/
def escC (c : Int) : Nat := if c = 92 then 1 else 0
def clsN (c : Int) (cls : Bool) : Bool := if c = 91 then true else if c = 93 then false else cls
def rgxF : Nat → Bool → Bool → List UInt8 → TpO
  | 0, _, _, _ => .bad 0 0
  | f + 1, first, cls, l =>
    if (nx l).2 = 0 ∨ (0 < (nx l).2 ∧ endsR (nx l).1 = true) ∨ (first = true ∧ ((nx l).1 = 42 ∨ (nx l).1 = 47)) then .bad 0 506
    else if (nx l).1 = 47 ∧ cls = false then .fine (1 + partsL false (l.drop 1)) false
    else if (nx l).1 = 92 ∧ ((nx (l.drop 1)).2 = 0 ∨ (0 < (nx (l.drop 1)).2 ∧ endsR (nx (l.drop 1)).1 = true)) then .bad 1 506
    else if (nx (l.drop (escC (nx l).1))).2 ≤ 0 then .bad (escC (nx l).1) 502
    else (rgxF f false (clsN (nx l).1 cls) (l.drop (escC (nx l).1 + (nx (l.drop (escC (nx l).1))).2.toNat))).shift (escC (nx l).1 + (nx (l.drop (escC (nx l).1))).2.toNat)
theorem rgxF_fuel : ∀ (f g : Nat) (first cls : Bool) (l : List UInt8), l.length < f → l.length < g → rgxF f first cls l = rgxF g first cls l
  | 0, _, _, _, _, h, _ => by omega
  | _ + 1, 0, _, _, _, _, h => by omega
  | f + 1, g + 1, first, cls, l, h1, h2 => by
    rw [rgxF, rgxF]
    by_cases e0 : (nx (l.drop (escC (nx l).1))).2 ≤ 0
    · simp only [if_pos e0]
    · obtain ⟨m, h3, h4, h5, h6⟩ := nx_pos (l := l.drop (escC (nx l).1)) (by omega)
      rw [List.length_drop] at h4
      rw [rgxF_fuel f g false (clsN (nx l).1 cls) (l.drop (escC (nx l).1 + (nx (l.drop (escC (nx l).1))).2.toNat)) (by rw [List.length_drop, h3, Int.toNat_natCast]; omega) (by rw [List.length_drop, h3, Int.toNat_natCast]; omega)]
def rgx (first cls : Bool) (l : List UInt8) : TpO := rgxF (l.length + 1) first cls l
theorem rgx_step (first cls : Bool) (l : List UInt8) : rgx first cls l =
    if (nx l).2 = 0 ∨ (0 < (nx l).2 ∧ endsR (nx l).1 = true) ∨ (first = true ∧ ((nx l).1 = 42 ∨ (nx l).1 = 47)) then .bad 0 506
    else if (nx l).1 = 47 ∧ cls = false then .fine (1 + partsL false (l.drop 1)) false
    else if (nx l).1 = 92 ∧ ((nx (l.drop 1)).2 = 0 ∨ (0 < (nx (l.drop 1)).2 ∧ endsR (nx (l.drop 1)).1 = true)) then .bad 1 506
    else if (nx (l.drop (escC (nx l).1))).2 ≤ 0 then .bad (escC (nx l).1) 502
    else (rgx false (clsN (nx l).1 cls) (l.drop (escC (nx l).1 + (nx (l.drop (escC (nx l).1))).2.toNat))).shift (escC (nx l).1 + (nx (l.drop (escC (nx l).1))).2.toNat) := by
  unfold rgx
  rw [rgxF]
  by_cases e0 : (nx (l.drop (escC (nx l).1))).2 ≤ 0
  · simp only [if_pos e0]
  · obtain ⟨m, h3, h4, h5, h6⟩ := nx_pos (l := l.drop (escC (nx l).1)) (by omega)
    rw [List.length_drop] at h4
    rw [rgxF_fuel l.length ((l.drop (escC (nx l).1 + (nx (l.drop (escC (nx l).1))).2.toNat)).length + 1) false (clsN (nx l).1 cls) (l.drop (escC (nx l).1 + (nx (l.drop (escC (nx l).1))).2.toNat)) (by rw [List.length_drop, h3, Int.toNat_natCast]; omega) (by omega)]
end Go.Proofs.YteejjkfmmhegmaaGreatDoor
