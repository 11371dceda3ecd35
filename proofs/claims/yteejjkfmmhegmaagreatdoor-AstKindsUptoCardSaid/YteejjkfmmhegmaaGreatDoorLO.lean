/- What str.Check and the reader's text compute, in plain Lean. -/
import Derived.Test.YteejjkfmmhegmaaGreatDoorLM
namespace Go.Proofs.YteejjkfmmhegmaaGreatDoor
open Go.RowKit

/-- a hex digit's value; -1: none. -/
def hexD (c : UInt8) : Int := if 48 ≤ c.toNat ∧ c.toNat ≤ 57 then (c.toNat : Int) - 48 else if 97 ≤ c.toNat ∧ c.toNat ≤ 102 then (c.toNat : Int) - 97 + 10 else if 65 ≤ c.toNat ∧ c.toNat ≤ 70 then (c.toNat : Int) - 65 + 10 else -1
theorem hexD_le (c : UInt8) : -1 ≤ hexD c ∧ hexD c < 16 := by
  unfold hexD
  split
  · omega
  · split
    · omega
    · split <;> omega
def up (k : Nat) (o : Bool × Nat) : Bool × Nat := (o.1, k + o.2)
theorem up_up (a c : Nat) (o : Bool × Nat) : up a (up c o) = up (a + c) o := by simp [up, Nat.add_assoc]
theorem up_zero (o : Bool × Nat) : up 0 o = o := by simp [up]
/-- so many hex digits: are there as many, and the place behind or of the first byte that is none. -/
def digN : Nat → List UInt8 → Bool × Nat
  | 0, _ => (true, 0)
  | _ + 1, [] => (false, 0)
  | m + 1, c :: l => if 0 ≤ hexD c then up 1 (digN m l) else (false, 0)
theorem digN_le : ∀ (m : Nat) (l : List UInt8), (digN m l).2 ≤ l.length
  | 0, _ => Nat.zero_le _
  | _ + 1, [] => Nat.zero_le _
  | m + 1, c :: l => by
    rw [digN]
    have := digN_le m l
    split
    · simp [up]; omega
    · exact Nat.zero_le _
def brcN : Int → Bool → List UInt8 → Bool × Nat
  | _, _, [] => (false, 0)
  | x, first, c :: l => if 0 ≤ hexD c then up 1 (brcN (min (x * 16 + hexD c) 1114112) false l) else if c ≠ 125 ∨ first = true ∨ 1114111 < x then (false, 0) else (true, 1)
theorem brcN_le : ∀ (l : List UInt8) (x : Int) (first : Bool), (brcN x first l).2 ≤ l.length
  | [], _, _ => Nat.zero_le _
  | c :: l, x, first => by
    rw [brcN]
    have := brcN_le l (min (x * 16 + hexD c) 1114112) false
    split
    · simp [up]; omega
    · split <;> simp
/-- an escape, whose backslash is the first byte. -/
def escS (l : List UInt8) : Bool × Nat :=
  if (nx (l.drop 1)).2 ≤ 0 then (false, 1)
  else if 49 ≤ (nx (l.drop 1)).1 ∧ (nx (l.drop 1)).1 ≤ 57 then (false, 1)
  else if (nx (l.drop 1)).1 = 48 then (if digAt (l.drop 2) = true then (false, 2) else (true, 2))
  else if (nx (l.drop 1)).1 = 120 then up 2 (digN 2 (l.drop 2))
  else if (nx (l.drop 1)).1 = 117 then (if Lib.hasPrefix (l.drop 2) [123] = true then up 3 (brcN 0 true (l.drop 3)) else up 2 (digN 4 (l.drop 2)))
  else if (nx (l.drop 1)).1 = 13 ∧ Lib.hasPrefix (l.drop 2) [10] = true then (true, 3)
  else (true, 1 + (nx (l.drop 1)).2.toNat)
theorem escS_le {l : List UInt8} (h : l ≠ []) : (escS l).2 ≤ l.length ∧ 0 < (escS l).2 := by
  have hl : 0 < l.length := List.length_pos_iff.2 h
  have h1 := digN_le 2 (l.drop 2)
  have h2 := digN_le 4 (l.drop 2)
  have h3 := brcN_le (l.drop 3) 0 true
  have hp : 0 < (nx (l.drop 1)).2 → ∃ n : Nat, (nx (l.drop 1)).2 = n ∧ n ≤ l.length - 1 ∧ 1 ≤ l.length - 1 := by
    intro h0
    obtain ⟨n, e, e2, _, _⟩ := nx_pos (l := l.drop 1) (by omega)
    rw [List.length_drop] at e2
    exact ⟨n, e, e2, by omega⟩
  rw [List.length_drop] at h1 h2 h3
  unfold escS
  by_cases c0 : (nx (l.drop 1)).2 ≤ 0
  · rw [if_pos c0]; exact ⟨hl, by decide⟩
  · obtain ⟨n, e, e2, e3⟩ := hp (by omega)
    have hpre : ∀ a, Lib.hasPrefix (l.drop 2) [a] = true → 3 ≤ l.length := by
      intro a ha
      have := prefix_len ha
      rw [List.length_drop] at this
      simp at this
      omega
    rw [if_neg c0]
    split
    · exact ⟨by show 1 ≤ _; omega, by decide⟩
    · split
      · split
        · exact ⟨by show 2 ≤ _; omega, by decide⟩
        · exact ⟨by show 2 ≤ _; omega, by decide⟩
      · split
        · simp only [up]; omega
        · split
          · split
            · rename_i hh
              have := hpre _ hh
              simp only [up]; omega
            · simp only [up]; omega
          · split
            · rename_i hh
              have := hpre _ hh.2
              exact ⟨this, by decide⟩
            · rw [e]
              constructor
              · show 1 + (n : Int).toNat ≤ _
                omega
              · show 0 < 1 + (n : Int).toNat
                omega
/-- a literal's parts, behind the quote: where they stop (at the other quote, or at the end), or the first byte that may not stand there. -/
def prtF : Nat → UInt8 → List UInt8 → Bool × Nat
  | 0, _, _ => (true, 0)
  | _ + 1, _, [] => (true, 0)
  | f + 1, q, c :: l =>
    if c = q then (true, 0)
    else if (nx (c :: l)).2 < 0 ∨ (nx (c :: l)).1 = 10 ∨ (nx (c :: l)).1 = 13 then (false, 0)
    else if (nx (c :: l)).1 = 92 then (if (escS (c :: l)).1 = true then up (escS (c :: l)).2 (prtF f q ((c :: l).drop (escS (c :: l)).2)) else escS (c :: l))
    else up (nx (c :: l)).2.toNat (prtF f q ((c :: l).drop (nx (c :: l)).2.toNat))
theorem prtF_fuel : ∀ (f g : Nat) (q : UInt8) (l : List UInt8), l.length ≤ f → l.length ≤ g → prtF f q l = prtF g q l
  | 0, g, q, l, h, _ => by
    have : l = [] := List.length_eq_zero_iff.1 (by omega)
    subst this
    cases g <;> rfl
  | f + 1, 0, q, l, _, h => by
    have : l = [] := List.length_eq_zero_iff.1 (by omega)
    subst this
    rfl
  | f + 1, g + 1, q, [], _, _ => rfl
  | f + 1, g + 1, q, c :: l, h1, h2 => by
    rw [prtF, prtF]
    have he := escS_le (l := c :: l) (by simp)
    rw [prtF_fuel f g q ((c :: l).drop (escS (c :: l)).2) (by rw [List.length_drop]; omega) (by rw [List.length_drop]; omega)]
    by_cases hn : (nx (c :: l)).2 < 0 ∨ (nx (c :: l)).1 = 10 ∨ (nx (c :: l)).1 = 13
    · simp only [if_pos hn]
    · obtain ⟨n, e, e2, _, e3⟩ := nx_pos (l := c :: l) (by omega)
      have hn0 : n ≠ 0 := fun h => by
        have := e3.2 h
        cases this
      rw [prtF_fuel f g q ((c :: l).drop (nx (c :: l)).2.toNat) (by rw [List.length_drop, e, Int.toNat_natCast]; omega) (by rw [List.length_drop, e, Int.toNat_natCast]; omega)]
def prt (q : UInt8) (l : List UInt8) : Bool × Nat := prtF l.length q l
theorem prt_nil (q : UInt8) : prt q [] = (true, 0) := rfl
theorem prt_step (q c : UInt8) (l : List UInt8) : prt q (c :: l) =
    if c = q then (true, 0)
    else if (nx (c :: l)).2 < 0 ∨ (nx (c :: l)).1 = 10 ∨ (nx (c :: l)).1 = 13 then (false, 0)
    else if (nx (c :: l)).1 = 92 then (if (escS (c :: l)).1 = true then up (escS (c :: l)).2 (prt q ((c :: l).drop (escS (c :: l)).2)) else escS (c :: l))
    else up (nx (c :: l)).2.toNat (prt q ((c :: l).drop (nx (c :: l)).2.toNat)) := by
  unfold prt
  rw [List.length_cons, prtF]
  have he := escS_le (l := c :: l) (by simp)
  rw [List.length_cons] at he
  rw [prtF_fuel l.length ((c :: l).drop (escS (c :: l)).2).length q ((c :: l).drop (escS (c :: l)).2) (by rw [List.length_drop, List.length_cons]; omega) (Nat.le_refl _)]
  by_cases hn : (nx (c :: l)).2 < 0 ∨ (nx (c :: l)).1 = 10 ∨ (nx (c :: l)).1 = 13
  · simp only [if_pos hn]
  · obtain ⟨n, e, e2, _, e3⟩ := nx_pos (l := c :: l) (by omega)
    have hn0 : n ≠ 0 := fun h => by
      have := e3.2 h
      cases this
    rw [prtF_fuel l.length ((c :: l).drop (nx (c :: l)).2.toNat).length q ((c :: l).drop (nx (c :: l)).2.toNat) (by rw [List.length_drop, e, Int.toNat_natCast, List.length_cons]; omega) (Nat.le_refl _)]
theorem prtF_le : ∀ (f : Nat) (q : UInt8) (l : List UInt8), (prtF f q l).2 ≤ l.length
  | 0, _, _ => Nat.zero_le _
  | _ + 1, _, [] => Nat.zero_le _
  | f + 1, q, c :: l => by
    rw [prtF]
    have he := escS_le (l := c :: l) (by simp)
    have h1 := prtF_le f q ((c :: l).drop (escS (c :: l)).2)
    rw [List.length_drop] at h1
    split
    · exact Nat.zero_le _
    · split
      · exact Nat.zero_le _
      · rename_i hn
        obtain ⟨n, e, e2, _, e3⟩ := nx_pos (l := c :: l) (by omega)
        have h2 := prtF_le f q ((c :: l).drop (nx (c :: l)).2.toNat)
        rw [List.length_drop, e, Int.toNat_natCast] at h2
        split
        · split
          · simp only [up]; omega
          · exact he.1
        · simp only [up]
          rw [e, Int.toNat_natCast]
          omega
theorem prt_le (q : UInt8) (l : List UInt8) : (prt q l).2 ≤ l.length := prtF_le _ _ _
/-- str.Check: is the text a literal, and the fault's place. -/
def strC : List UInt8 → Bool × Nat
  | [] => (false, 0)
  | q :: l => if q ≠ 39 ∧ q ≠ 34 then (false, 0)
    else if (prt q l).1 = false then (false, 1 + (prt q l).2)
    else if 1 + (prt q l).2 = l.length then (true, 0)
    else (false, min (2 + (prt q l).2) (l.length + 1))
theorem strC_le (l : List UInt8) : (strC l).2 ≤ l.length := by
  cases l with
  | nil => exact Nat.le_refl _
  | cons q l =>
    have := prt_le q l
    rw [strC]
    split
    · exact Nat.zero_le _
    · split
      · simp; omega
      · split
        · exact Nat.zero_le _
        · simp; omega
/-- how far the reader looks for a text's end. -/
def scF : Nat → UInt8 → List UInt8 → Nat
  | 0, _, _ => 0
  | _ + 1, _, [] => 0
  | f + 1, q, c :: l =>
    if c = q ∨ c = 10 ∨ c = 13 then 0
    else if c = 92 then (if Lib.hasPrefix l [13, 10] = true then 3 + scF f q (l.drop 2) else 2 + scF f q (l.drop 1))
    else 1 + scF f q l
theorem scF_fuel : ∀ (f g : Nat) (q : UInt8) (l : List UInt8), l.length ≤ f → l.length ≤ g → scF f q l = scF g q l
  | 0, g, q, l, h, _ => by
    have : l = [] := List.length_eq_zero_iff.1 (by omega)
    subst this
    cases g <;> rfl
  | f + 1, 0, q, l, _, h => by
    have : l = [] := List.length_eq_zero_iff.1 (by omega)
    subst this
    rfl
  | f + 1, g + 1, q, [], _, _ => rfl
  | f + 1, g + 1, q, c :: l, h1, h2 => by
    rw [List.length_cons] at h1 h2
    rw [scF, scF, scF_fuel f g q l (by omega) (by omega), scF_fuel f g q (l.drop 2) (by rw [List.length_drop]; omega) (by rw [List.length_drop]; omega), scF_fuel f g q (l.drop 1) (by rw [List.length_drop]; omega) (by rw [List.length_drop]; omega)]
def sc (q : UInt8) (l : List UInt8) : Nat := scF l.length q l
theorem sc_nil (q : UInt8) : sc q [] = 0 := rfl
theorem sc_step (q c : UInt8) (l : List UInt8) : sc q (c :: l) =
    if c = q ∨ c = 10 ∨ c = 13 then 0
    else if c = 92 then (if Lib.hasPrefix l [13, 10] = true then 3 + sc q (l.drop 2) else 2 + sc q (l.drop 1))
    else 1 + sc q l := by
  unfold sc
  rw [List.length_cons, scF, scF_fuel l.length (l.drop 2).length q (l.drop 2) (by rw [List.length_drop]; omega) (Nat.le_refl _), scF_fuel l.length (l.drop 1).length q (l.drop 1) (by rw [List.length_drop]; omega) (Nat.le_refl _)]
theorem scF_le : ∀ (f : Nat) (q : UInt8) (l : List UInt8), scF f q l ≤ l.length + 1
  | 0, _, _ => Nat.zero_le _
  | _ + 1, _, [] => Nat.zero_le _
  | f + 1, q, c :: l => by
    have h1 := scF_le f q l
    have h2 := scF_le f q (l.drop 2)
    have h3 := scF_le f q (l.drop 1)
    rw [List.length_drop] at h2 h3
    rw [scF, List.length_cons]
    split
    · omega
    · split
      · split
        · rename_i hh
          have := prefix_len hh
          simp at this
          omega
        · cases l with
          | nil =>
            have : scF f q (([] : List UInt8).drop 1) = 0 := by cases f <;> rfl
            rw [this]
            simp
          | cons a t =>
            simp at h3 ⊢
            omega
      · omega
end Go.Proofs.YteejjkfmmhegmaaGreatDoor
