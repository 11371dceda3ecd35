/- Parts: Plain: how package parse's reading goes over tokens that have no comments ahead: states, looking, taking. No condition. | Plain: names with operators between are read as the tree that is cut at the loosest one. No condition. | Plain: the tokens of a text of names, marks and blanks, as the parser sees them. No condition. | Plain: a text of names with operators between, as the parser sees its tokens. No condition. | Plain: what Expr reads of a text of names with operators between. No condition. -/
import Derived.Test.YtfnjjgmhjbhclaaGreatDoorPn08
namespace Go.Proofs.YtfnjjgmhjbhclaaGreatDoor
section
open Go.RowKit
def Sees (s : ByteArray) (g : Int) (i : Int) (t : Tk) : Prop := 0 ≤ i ∧ i ≤ (s.size : Int) ∧ ∃ q n, nxt s i.toNat g = .fine t.kind q n t.line [] ∧ tkOf s t.kind q n t.line = t
def slashT (t : Tk) : Bool := Lib.hasPrefix t.text.data.toList [47]
theorem PM.go {α β : Type} {x : PM α} {f : α → PM β} {p q : Ps} {a : α} (h : x p = .ok a q) : (x >>= f) p = f a q := by
 show PM.bind x f p = _
 unfold PM.bind
 rw [h]
structure Nm (t : Tk) : Prop where
 kind : t.kind = 1
 res : oneOf t.text resW = false
 aw : t.text ≠ ⟨#[97, 119, 97, 105, 116]⟩
 asy : t.text ≠ ⟨#[97, 115, 121, 110, 99]⟩
 sl : slashT t = false
theorem oneOf_ne {t : ByteArray} {l : List ByteArray} (h : oneOf t l = false) {x : ByteArray} (hx : oneOf x l = true) : t ≠ x := by
 rintro rfl
 rw [h] at hx
 cases hx
theorem Nm.ne {t : Tk} (h : Nm t) {x : ByteArray} (hx : oneOf x resW = true) : t.text ≠ x := oneOf_ne h.res hx
theorem Nm.nameT {t : Tk} (h : Nm t) {x : ByteArray} (hx : oneOf x resW = true) : nameT t x = false := by
 unfold Go.Proofs.YtfnjjgmhjbhclaaGreatDoor.nameT
 rw [decide_eq_false (h.ne hx), Bool.and_false]
theorem Nm.punctT {t : Tk} (h : Nm t) (x : ByteArray) : punctT t x = false := by
 unfold Go.Proofs.YtfnjjgmhjbhclaaGreatDoor.punctT
 rw [h.kind]
 rfl
theorem Nm.ident {t : Tk} (h : Nm t) (m : Bool) (fl : Int) : identB m fl t = true := by
 unfold identB reservedB
 rw [if_neg h.aw, h.res, h.kind, decide_eq_true h.aw]
 simp
structure Endy (u : Tk) : Prop where
 dot : punctT u ⟨#[46]⟩ = false
 brk : punctT u ⟨#[91]⟩ = false
 par : punctT u ⟨#[40]⟩ = false
 opt : punctT u ⟨#[63, 46]⟩ = false
 k7 : u.kind ≠ 7
 k8 : u.kind ≠ 8
 inc : punctT u ⟨#[43, 43]⟩ = false
 dec : punctT u ⟨#[45, 45]⟩ = false
end
section
open Go.RowKit
structure Opr (o : Tk) : Prop where
 op : (decide (o.kind ≠ 5) && !nameT o ⟨#[105, 110, 115, 116, 97, 110, 99, 101, 111, 102]⟩ && !nameT o ⟨#[105, 110]⟩) = false
 lo : 2 ≤ levelB o.text
 hi : levelB o.text ≤ 12
 star : levelB o.text = 12 ↔ o.text = ⟨#[42, 42]⟩
 e : Endy o
section
variable {s : ByteArray}
def Row (s : ByteArray) : Int → List (Tk × Tk) → Tk → Prop
 | i, [], e => Sees s 1 i e
 | i, x :: l, e => Sees s 1 i x.1 ∧ Opr x.1 ∧ Sees s 2 x.1.till x.2 ∧ Nm x.2 ∧ Row s x.2.till l e
def lastT : Tk → List (Tk × Tk) → Tk
 | v, [] => v
 | _, x :: l => lastT x.2 l
def headT : List (Tk × Tk) → Tk → Tk
 | [], e => e
 | x :: _, _ => x.1
theorem Row.drop {e : Tk} : ∀ {a b : List (Tk × Tk)} {v : Tk}, Row s v.till (a ++ b) e → Row s (lastT v a).till b e
 | [], _, _, h => h
 | x :: a, _, _, h => Row.drop (a := a) (v := x.2) h.2.2.2.2
theorem Row.head {l : List (Tk × Tk)} {i : Int} {e : Tk} (h : Row s i l e) : Sees s 1 i (headT l e) := by
 cases l with
 | nil => exact h
 | cons x l => exact h.1
variable {m : Bool}
end
end
section
open Go.RowKit
@[reducible] def low (c : UInt8) : Prop := 97 ≤ c.toNat ∧ c.toNat ≤ 122
end
section
open Go.RowKit
def row2 (x : List UInt8 × List UInt8) : ByteArray × ByteArray := (⟨x.1.toArray⟩, ⟨(118 :: x.2).toArray⟩)
end
section
open Go.RowKit
end
end Go.Proofs.YtfnjjgmhjbhclaaGreatDoor
