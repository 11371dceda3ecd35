/- What the reader's plain, tag, child, tail and lex.Next compute, in plain Lean. -/
import Derived.Test.YteejjkfmmhegmaaGreatDoorLO
namespace Go.Proofs.YteejjkfmmhegmaaGreatDoor
open Go.RowKit

/-- a token read: its kind and how many bytes it takes; or a fault, so many bytes on. -/
inductive TkO where
  | fine (kind : Int) (n : Nat)
  | bad (off : Nat) (code : Int)
/-- a fault at its place, if a byte stands behind that is no part of a character. -/
def aft (l : List UInt8) (kind : Int) (n : Nat) : TkO := if (nx (l.drop n)).2 < 0 then .bad n 502 else .fine kind n
def tpTk (kh kt : Int) : TpO → TkO
  | .fine n h => .fine (if h = true then kh else kt) (1 + n)
  | .bad off code => .bad (if code = 502 then 1 + off else 0) code
def rgTk (l : List UInt8) : TpO → TkO
  | .fine n _ => aft l 6 (1 + n)
  | .bad off code => .bad (if code = 502 then 1 + off else 0) code
/-- how many bytes of a text literal are looked at. -/
def txtL : List UInt8 → Nat
  | [] => 0
  | q :: l => if sc q l < l.length ∧ (l.drop (sc q l)).head? = some q then 2 + sc q l else min (1 + sc q l) (l.length + 1)
def txt (l : List UInt8) : TkO :=
  if (strC (l.take (txtL l))).1 = true then .fine 4 (txtL l)
  else if (strC (l.take (txtL l))).2 < txtL l ∧ (nx (l.drop (strC (l.take (txtL l))).2)).2 < 0 then .bad (strC (l.take (txtL l))).2 502
  else .bad (strC (l.take (txtL l))).2 504
def pctRow : List (List UInt8) := [[62, 62, 62, 61], [46, 46, 46], [61, 61, 61], [33, 61, 61], [42, 42, 61], [60, 60, 61], [62, 62, 61], [62, 62, 62], [38, 38, 61], [124, 124, 61], [63, 63, 61], [60, 61], [62, 61], [61, 61], [33, 61], [42, 42], [43, 43], [45, 45], [60, 60], [62, 62], [38, 38], [124, 124], [63, 63], [63, 46], [43, 61], [45, 61], [42, 61], [37, 61], [38, 61], [124, 61], [94, 61], [61, 62], [123], [125], [40], [41], [91], [93], [46], [59], [44], [60], [62], [43], [45], [42], [37], [38], [124], [94], [33], [126], [63], [58], [61]]
def pctIs (l w : List UInt8) : Bool := Lib.hasPrefix l w && !(w == [63, 46] && digAt (l.drop 2))
/-- the punctuator's length; 0: none begins there. -/
def pct (goal : Int) (l : List UInt8) : Nat :=
  if goal = 1 ∧ Lib.hasPrefix l [47, 61] = true then 2
  else if goal = 1 ∧ Lib.hasPrefix l [47] = true then 1
  else match pctRow.find? (pctIs l) with
    | some w => w.length
    | none => 0
def odd (l : List UInt8) : TkO := .bad 0 (if Lib.hasPrefix l [92] = true then 508 else 502)
def priv (l : List UInt8) : TkO :=
  if (nx (l.drop 1)).2 < 0 then .bad 1 502
  else if nameL false (l.drop 1) = 0 then .bad 0 509
  else aft l 2 (1 + nameL false (l.drop 1))
def numT (l : List UInt8) : TkO := if numL l = 0 then .bad 0 503 else aft l 3 (numL l)
def plainT (goal : Int) (l : List UInt8) : TkO :=
  if l = [] then .fine 0 0
  else if Lib.hasPrefix l [96] = true then tpTk 8 7 (tpl (l.drop 1))
  else if Lib.hasPrefix l [35] = true then priv l
  else if digAt l = true ∨ (Lib.hasPrefix l [46] = true ∧ digAt (l.drop 1) = true) then numT l
  else if Lib.hasPrefix l [39] = true ∨ Lib.hasPrefix l [34] = true then txt l
  else if goal = 2 ∧ Lib.hasPrefix l [47] = true then rgTk l (rgx true false (l.drop 1))
  else if nameL false l ≠ 0 then aft l 1 (nameL false l)
  else if pct goal l ≠ 0 then .fine 5 (pct goal l)
  else odd l
/-- an attribute's text behind its quote: its length with the other quote; or a fault. -/
def attF (q : UInt8) : Nat → List UInt8 → TpO
  | 0, _ => .bad 0 0
  | f + 1, l =>
    if Lib.hasPrefix l [q] = true then .fine 1 false
    else if (nx l).2 = 0 then .bad 0 504
    else if (nx l).2 < 0 then .bad 0 502
    else (attF q f (l.drop (nx l).2.toNat)).shift (nx l).2.toNat
theorem attF_fuel (q : UInt8) : ∀ (f g : Nat) (l : List UInt8), l.length < f → l.length < g → attF q f l = attF q g l
  | 0, _, _, h, _ => by omega
  | _ + 1, 0, _, _, h => by omega
  | f + 1, g + 1, l, h1, h2 => by
    rw [attF, attF]
    by_cases e0 : (nx l).2 < 0
    · simp only [if_pos e0]
    · by_cases e1 : (nx l).2 = 0
      · simp only [if_pos e1]
      · obtain ⟨m, h3, h4, h5, h6⟩ := nx_pos (l := l) (by omega)
        rw [attF_fuel q f g (l.drop (nx l).2.toNat) (by rw [List.length_drop, h3, Int.toNat_natCast]; omega) (by rw [List.length_drop, h3, Int.toNat_natCast]; omega)]
def att (q : UInt8) (l : List UInt8) : TpO := attF q (l.length + 1) l
theorem att_step (q : UInt8) (l : List UInt8) : att q l =
    if Lib.hasPrefix l [q] = true then .fine 1 false
    else if (nx l).2 = 0 then .bad 0 504
    else if (nx l).2 < 0 then .bad 0 502
    else (att q (l.drop (nx l).2.toNat)).shift (nx l).2.toNat := by
  unfold att
  rw [attF]
  by_cases e0 : (nx l).2 < 0
  · simp only [if_pos e0]
  · by_cases e1 : (nx l).2 = 0
    · simp only [if_pos e1]
    · obtain ⟨m, h3, h4, h5, h6⟩ := nx_pos (l := l) (by omega)
      rw [attF_fuel q l.length ((l.drop (nx l).2.toNat).length + 1) (l.drop (nx l).2.toNat) (by rw [List.length_drop, h3, Int.toNat_natCast]; omega) (by omega)]
def tagP (c : UInt8) : Bool := c == 60 || c == 62 || c == 47 || c == 123 || c == 61 || c == 46 || c == 58
def tagT : List UInt8 → TkO
  | [] => .fine 0 0
  | c :: l => if c = 39 ∨ c = 34 then (match att c l with
      | .fine n _ => .fine 12 (1 + n)
      | .bad off code => .bad (if code = 502 then 1 + off else 0) code)
    else if tagP c = true then .fine 5 1
    else if nameL true (c :: l) ≠ 0 then aft (c :: l) 1 (nameL true (c :: l))
    else odd (c :: l)
def chC (c : UInt8) : Bool := c == 123 || c == 125 || c == 60 || c == 62
/-- a child's text: how long it is; or a byte that is no part of a character. -/
def chF : Nat → List UInt8 → Bool × Nat
  | 0, _ => (true, 0)
  | _ + 1, [] => (true, 0)
  | f + 1, c :: l =>
    if chC c = true then (true, 0)
    else if (nx (c :: l)).2 < 0 then (false, 0)
    else up (nx (c :: l)).2.toNat (chF f ((c :: l).drop (nx (c :: l)).2.toNat))
theorem nx_cons_pos {c : UInt8} {l : List UInt8} (h : ¬ (nx (c :: l)).2 < 0) : ∃ n : Nat, (nx (c :: l)).2 = n ∧ n ≤ l.length + 1 ∧ 0 < n := by
  obtain ⟨n, e, e2, _, e3⟩ := nx_pos (l := c :: l) (by omega)
  refine ⟨n, e, by simpa using e2, ?_⟩
  rcases Nat.eq_zero_or_pos n with h0 | h0
  · exact absurd (e3.2 h0) (by simp)
  · exact h0
theorem chF_fuel : ∀ (f g : Nat) (l : List UInt8), l.length ≤ f → l.length ≤ g → chF f l = chF g l
  | 0, g, l, h, _ => by
    have : l = [] := List.length_eq_zero_iff.1 (by omega)
    subst this
    cases g <;> rfl
  | f + 1, 0, l, _, h => by
    have : l = [] := List.length_eq_zero_iff.1 (by omega)
    subst this
    rfl
  | f + 1, g + 1, [], _, _ => rfl
  | f + 1, g + 1, c :: l, h1, h2 => by
    rw [chF, chF]
    by_cases hn : (nx (c :: l)).2 < 0
    · simp only [if_pos hn]
    · obtain ⟨n, e, e2, e3⟩ := nx_cons_pos hn
      rw [List.length_cons] at h1 h2
      rw [chF_fuel f g ((c :: l).drop (nx (c :: l)).2.toNat) (by rw [List.length_drop, e, Int.toNat_natCast, List.length_cons]; omega) (by rw [List.length_drop, e, Int.toNat_natCast, List.length_cons]; omega)]
def ch (l : List UInt8) : Bool × Nat := chF l.length l
theorem ch_nil : ch [] = (true, 0) := rfl
theorem ch_step (c : UInt8) (l : List UInt8) : ch (c :: l) =
    if chC c = true then (true, 0)
    else if (nx (c :: l)).2 < 0 then (false, 0)
    else up (nx (c :: l)).2.toNat (ch ((c :: l).drop (nx (c :: l)).2.toNat)) := by
  unfold ch
  rw [List.length_cons, chF]
  by_cases hn : (nx (c :: l)).2 < 0
  · simp only [if_pos hn]
  · obtain ⟨n, e, e2, e3⟩ := nx_cons_pos hn
    rw [chF_fuel l.length ((c :: l).drop (nx (c :: l)).2.toNat).length ((c :: l).drop (nx (c :: l)).2.toNat) (by rw [List.length_drop, e, Int.toNat_natCast, List.length_cons]; omega) (Nat.le_refl _)]
def childT (l : List UInt8) : TkO :=
  if (ch l).1 = false then .bad (ch l).2 502
  else if 0 < (ch l).2 then .fine 11 (ch l).2
  else if l = [] then .fine 0 0
  else if Lib.hasPrefix l [123] = true ∨ Lib.hasPrefix l [60] = true then .fine 5 1
  else odd l
def tailT (l : List UInt8) : TkO := tpTk 10 9 (tpl (l.drop 1))
def tokT (goal : Int) (l : List UInt8) : TkO :=
  if goal = 3 then tailT l else if goal = 4 then childT l else if goal = 5 then tagT l else plainT goal l
/-- what Next answers: a token (its kind, from, to, line) and the comments ahead of it; or a place and a number. -/
inductive NxO where
  | fine (kind : Int) (from' n : Nat) (line : Bool) (cs : List Cm)
  | bad (place : Int) (code : Int)
def nxt (s : ByteArray) (p : Nat) (goal : Int) : NxO :=
  if goal < 1 ∨ 5 < goal ∨ (goal = 3 ∧ ¬ Lib.hasPrefix (s.data.toList.drop p) [125] = true) then .bad 0 501
  else match (if goal = 3 ∨ goal = 4 then BtO.fine p false [] else btw s p false) with
    | .bad place code => .bad place code
    | .fine q line cs => match tokT goal (s.data.toList.drop q) with
      | .fine kind n => .fine kind q n line cs
      | .bad off code => .bad ((q + off : Nat) : Int) code
end Go.Proofs.YteejjkfmmhegmaaGreatDoor
