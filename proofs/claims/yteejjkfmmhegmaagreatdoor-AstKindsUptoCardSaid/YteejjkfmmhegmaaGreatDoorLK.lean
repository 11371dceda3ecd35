/- What the reader's template computes, in plain Lean. -/
import Derived.Test.YteejjkfmmhegmaaGreatDoorLJ
namespace Go.Proofs.YteejjkfmmhegmaaGreatDoor
open Go.RowKit

inductive TpO where
  | fine (n : Nat) (head : Bool)
  | bad (off : Nat) (code : Int)
def TpO.shift (m : Nat) : TpO → TpO
  | .fine n h => .fine (m + n) h
  | .bad off code => .bad (m + off) code
/-- bytes of a backslash at the head. -/
def esc (l : List UInt8) : Nat := if Lib.hasPrefix l [92] = true then 1 else 0
theorem esc_le (l : List UInt8) : esc l ≤ l.length := by
  unfold esc
  split
  · rename_i h
    cases l with
    | nil => exact absurd h (by decide)
    | cons a t => simp
  · omega
def tplF : Nat → List UInt8 → TpO
  | 0, _ => .bad 0 0
  | f + 1, l =>
    if Lib.hasPrefix l [96] = true then .fine 1 false
    else if Lib.hasPrefix l [36, 123] = true then .fine 2 true
    else if (nx (l.drop (esc l))).2 = 0 then .bad (esc l) 505
    else if (nx (l.drop (esc l))).2 < 0 then .bad (esc l) 502
    else (tplF f (l.drop (esc l + (nx (l.drop (esc l))).2.toNat))).shift (esc l + (nx (l.drop (esc l))).2.toNat)
theorem tplF_fuel : ∀ (f g : Nat) (l : List UInt8), l.length < f → l.length < g → tplF f l = tplF g l
  | 0, _, _, h, _ => by omega
  | _ + 1, 0, _, _, h => by omega
  | f + 1, g + 1, l, h1, h2 => by
    rw [tplF, tplF]
    by_cases e0 : (nx (l.drop (esc l))).2 < 0
    · simp only [if_pos e0]
    · by_cases e1 : (nx (l.drop (esc l))).2 = 0
      · simp only [if_pos e1]
      · obtain ⟨m, h3, h4, h5, h6⟩ := nx_pos (l := l.drop (esc l)) (by omega)
        have hle := esc_le l
        rw [List.length_drop] at h4
        rw [tplF_fuel f g (l.drop (esc l + (nx (l.drop (esc l))).2.toNat)) (by rw [List.length_drop, h3, Int.toNat_natCast]; omega) (by rw [List.length_drop, h3, Int.toNat_natCast]; omega)]
def tpl (l : List UInt8) : TpO := tplF (l.length + 1) l
theorem tpl_step (l : List UInt8) : tpl l =
    if Lib.hasPrefix l [96] = true then .fine 1 false
    else if Lib.hasPrefix l [36, 123] = true then .fine 2 true
    else if (nx (l.drop (esc l))).2 = 0 then .bad (esc l) 505
    else if (nx (l.drop (esc l))).2 < 0 then .bad (esc l) 502
    else (tpl (l.drop (esc l + (nx (l.drop (esc l))).2.toNat))).shift (esc l + (nx (l.drop (esc l))).2.toNat) := by
  unfold tpl
  rw [tplF]
  by_cases e0 : (nx (l.drop (esc l))).2 < 0
  · simp only [if_pos e0]
  · by_cases e1 : (nx (l.drop (esc l))).2 = 0
    · simp only [if_pos e1]
    · obtain ⟨m, h3, h4, h5, h6⟩ := nx_pos (l := l.drop (esc l)) (by omega)
      have hle := esc_le l
      rw [List.length_drop] at h4
      rw [tplF_fuel l.length ((l.drop (esc l + (nx (l.drop (esc l))).2.toNat)).length + 1) (l.drop (esc l + (nx (l.drop (esc l))).2.toNat)) (by rw [List.length_drop, h3, Int.toNat_natCast]; omega) (by omega)]
end Go.Proofs.YteejjkfmmhegmaaGreatDoor
