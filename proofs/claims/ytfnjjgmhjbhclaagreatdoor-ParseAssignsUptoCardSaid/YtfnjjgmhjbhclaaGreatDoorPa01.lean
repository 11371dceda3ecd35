/- Parts: Trees in plain Lean: what package ast computes of them; and how they lie in memory. | The contract of the reference's Decimal below 100. | Plain: how package parse's reading goes over tokens that have no comments ahead: states, looking, taking. No condition. | Plain: names with operators between are read as the tree that is cut at the loosest one. No condition. | Plain: the tokens of a text of names, marks and blanks, as the parser sees them. No condition. | Plain: a text of names with operators between, as the parser sees its tokens. No condition. | Plain: what Expr reads of a text of names with operators between. No condition. | Contract of the law's split. Conditions: at most 90 names; the operators' row lies in memory. | ParseOperators' function answers true. Conditions: the argument's cells hold ints; what a law leans on. | Plain: what Expr reads of signs ahead of a member. No condition. | Plain: tokens that stand at a place, behind a blank or not. No condition. | Plain: the text of signs ahead of a.b, as the parser sees its tokens; what Expr reads of it. No condition. | ParseSigns' function answers true: signs go from the inside out. Conditions: the argument's cells hold ints; what a law leans on. | Plain: what Expr reads of assignments and conditions in a row. No condition. | Plain: the text of assignments and conditions, as the parser sees its tokens; what Expr reads of it. No condition. | ParseAssigns' function answers true: assignments lean to the right, conditions in their third part. Conditions: the argument's cells hold ints; what a law leans on. | What the bound on what a law reads gives. No condition. -/
import Derived.Test.YtfnjjgmhjbhclaaGreatDoorPn01
import Derived.Test.YtfnjjgmhjbhclaaGreatDoorPn02
import Derived.Test.YtfnjjgmhjbhclaaGreatDoorPn03
import Derived.Test.YtfnjjgmhjbhclaaGreatDoorPn04
import Derived.Test.YtfnjjgmhjbhclaaGreatDoorPn05
import Derived.Test.YtfnjjgmhjbhclaaGreatDoorPn06
import Derived.Test.YtfnjjgmhjbhclaaGreatDoorPn07
import Derived.Test.YtfnjjgmhjbhclaaGreatDoorPn08
import Derived.Test.YtfnjjgmhjbhclaaGreatDoorPn09
import Derived.Test.YtfnjjgmhjbhclaaGreatDoorPn10
import Derived.Test.YtfnjjgmhjbhclaaGreatDoorPn11
import Derived.Test.YtfnjjgmhjbhclaaGreatDoorPn12
import Derived.Test.YtfnjjgmhjbhclaaGreatDoorPn13
import Derived.Test.YtfnjjgmhjbhclaaGreatDoorPn14
import Derived.Test.YtfnjjgmhjbhclaaGreatDoorPn15
import Derived.Test.YtfnjjgmhjbhclaaGreatDoorPn16
import Derived.Test.YtfnjjgmhjbhclaaGreatDoorPn17
import Derived.Test.YtfnjjgmhjbhclaaGreatDoorPn18
import Derived.Test.YtfnjjgmhjbhclaaGreatDoorPn19
import Derived.Test.YtfnjjgmhjbhclaaGreatDoorPn20
import Derived.Test.YtfnjjgmhjbhclaaGreatDoorPn21
import Derived.Test.YtfnjjgmhjbhclaaGreatDoorPn22
import Derived.Test.YtfnjjgmhjbhclaaGreatDoorPn23
import Derived.Test.YtfnjjgmhjbhclaaGreatDoorPn24
import Derived.Test.YtfnjjgmhjbhclaaGreatDoorPn25
import Derived.Test.YtfnjjgmhjbhclaaGreatDoorPn26
import Derived.Test.YtfnjjgmhjbhclaaGreatDoorPn27
import Derived.Test.YtfnjjgmhjbhclaaGreatDoorPn29
import Derived.Test.YtfnjjgmhjbhclaaGreatDoorPn30
import Derived.Test.YtfnjjgmhjbhclaaGreatDoorPn32
import Derived.Laws.AppendOwnNone
import Derived.Test.YtfnjjgmhjbhclaaGreatDoorRows
namespace Go.Proofs.YtfnjjgmhjbhclaaGreatDoor
section
open Go.RowKit
theorem sameNd_refl (a : Nd) : sameNd a a = true := by
 induction a using Nd.ind with
 | h n ih => exact (sameNd_iff n n).2 ⟨rfl, rfl, rfl, fun i h _ => ih _ (List.getElem_mem h)⟩
end
section
open Go.RowKit
def dc2 (y : Nat) : List UInt8 := if y = 0 then [] else if y < 10 then [UInt8.ofNat (48 + y)] else [UInt8.ofNat (48 + y / 10), UInt8.ofNat (48 + y % 10)]
def dcl (i : Nat) : List UInt8 := if i = 0 then [48] else dc2 i
theorem dcl_row : ∀ i : Fin 100, (dcl i.val).length ≤ 2 ∧ dcl i.val ≠ [] ∧ ∀ c ∈ dcl i.val, 48 ≤ c.toNat ∧ c.toNat ≤ 57 := by decide +kernel
end
section
open Go.RowKit
def Zs (i : Int) (t : Tk) (g fl ne ar : Int) : Ps := ⟨i, t, [], g, [], fl, ne, ar, []⟩
section
variable {s : ByteArray} {g g' i fl ne ar : Int} {t tk : Tk}
theorem peek_new (h : Sees s g i t) : peekP s g (Zs i tk 0 fl ne ar) = .ok t (Zs i t g fl ne ar) := by
 obtain ⟨h0, h1, q, n, h2, h3⟩ := h
 unfold peekP cachedB Zs
 rw [if_neg (by simp)]
 unfold freshP
 simp only
 rw [if_neg (by omega), h2]
 simp only
 rw [h3]
theorem peek_old (hg : g ≠ 0) : peekP s g (Zs i t g fl ne ar) = .ok t (Zs i t g fl ne ar) := by
 unfold peekP cachedB Zs
 rw [if_pos (by simp [hg])]
theorem peek_12 (h1 : g' ≠ 0) (h2 : g' ≤ 2) (h3 : g ≤ 2) (hs : slashT t = false) : peekP s g (Zs i t g' fl ne ar) = .ok t (Zs i t g' fl ne ar) := by
 unfold slashT at hs
 unfold peekP cachedB Zs
 rw [if_pos (by simp [h1, h2, h3, hs])]
theorem take_z : takeP (Zs i t g fl ne ar) = .ok t (Zs t.till t 0 fl ne ar) := rfl
theorem look_z (h : Sees s 1 i t) (p : Ps) : lookP s i p = .ok t p := by
 obtain ⟨h0, h1, q, n, h2, h3⟩ := h
 unfold lookP lookT
 rw [if_neg (by omega), h2]
 simp only
 rw [h3]
 rfl
theorem is_no {x : ByteArray} (hp : peekP s 1 (Zs i tk g' fl ne ar) = .ok t (Zs i t g fl ne ar)) (h : punctT t x = false) : isP s x (Zs i tk g' fl ne ar) = .ok false (Zs i t g fl ne ar) := by
 unfold isP
 rw [PM.go hp, if_neg (by rw [h]; decide)]
 rfl
theorem is_yes {x : ByteArray} (hp : peekP s 1 (Zs i tk g' fl ne ar) = .ok t (Zs i t g fl ne ar)) (h : punctT t x = true) : isP s x (Zs i tk g' fl ne ar) = .ok true (Zs t.till t 0 fl ne ar) := by
 unfold isP
 rw [PM.go hp, if_pos h]
 rfl
theorem want_yes {x : ByteArray} (hp : peekP s 1 (Zs i tk g' fl ne ar) = .ok t (Zs i t g fl ne ar)) (h : punctT t x = true) : wantP s x (Zs i tk g' fl ne ar) = .ok t (Zs t.till t 0 fl ne ar) := by
 unfold wantP
 rw [PM.go hp, if_pos h]
 rfl
end
theorem nameT_ne {t : Tk} {x : ByteArray} (h : t.text ≠ x) : nameT t x = false := by
 unfold nameT
 rw [decide_eq_false h, Bool.and_false]
section
variable {s : ByteArray} {m : Bool} {g i fl ne ar : Int} {t u tk : Tk}
theorem named_z (f : Nat) (h : Nm t) (hg : g = 1 ∨ g = 2) : runQ s m (f + 1) (.named t) (Zs i t g fl ne ar) = .ok (leafN 1 t) (Zs t.till t 0 fl ne ar) := by
 show namedS s m (runQ s m f) t _ = _
 have h1 : oneOf t.text [⟨#[116, 104, 105, 115]⟩, ⟨#[110, 117, 108, 108]⟩, ⟨#[116, 114, 117, 101]⟩, ⟨#[102, 97, 108, 115, 101]⟩] = false := by
  unfold oneOf
  rw [List.any_eq_false]
  intro x hx
  simp only [List.mem_cons, List.not_mem_nil, or_false] at hx
  rcases hx with rfl | rfl | rfl | rfl <;> (rw [decide_eq_false (h.ne (by decide))]; decide)
 unfold namedS
 rw [if_neg (by rw [h1]; decide), if_neg (h.ne (by decide)), if_neg (h.ne (by decide)), if_neg h.asy]
 unfold takeIdentP
 have hp : peekP s 1 (Zs i t g fl ne ar) = .ok t (Zs i t g fl ne ar) := peek_12 (by omega) (by omega) (by omega) h.sl
 rw [PM.go hp]
 show (if identB m fl t then _ else _ : PM Nd) _ = _
 rw [if_pos (h.ident m fl), PM.go take_z]
 rfl
theorem base_z (f : Nat) (h : Nm t) (hg : g = 1 ∨ g = 2) (calls : Bool) : runQ s m (f + 3) (.base t calls) (Zs i t g fl ne ar) = .ok (leafN 1 t) (Zs t.till t 0 fl ne ar) := by
 show baseS s m (runQ s m (f + 2)) t calls _ = _
 unfold baseS
 rw [if_neg (by rw [h.nameT (by decide)]; decide), if_neg (by rw [h.nameT (by decide)]; decide), if_neg (by rw [h.nameT (by decide)]; decide)]
 show primaryS (runQ s m (f + 1)) t _ = _
 have hk := h.kind
 unfold primaryS
 rw [if_neg (by omega), if_neg (by omega), if_neg (by omega), if_pos hk]
 exact named_z f h hg
theorem link_no (f : Nat) (n : Nd) (calls tmpl : Bool) (hu : Endy u) (hp : peekP s 1 (Zs i tk g fl ne ar) = .ok u (Zs i u 1 fl ne ar)) : runQ s m (f + 1) (.link n calls tmpl) (Zs i tk g fl ne ar) = .ok (n, false) (Zs i u 1 fl ne ar) := by
 show linkS s (runQ s m f) n calls tmpl _ = _
 unfold linkS
 rw [PM.go hp, if_neg (by rw [hu.dot]; decide), if_neg (by rw [hu.brk]; decide), if_neg (by rw [hu.par]; simp), if_neg (by have := hu.k7; have := hu.k8; omega)]
 rfl
theorem get_z (p : Ps) : getP p = .ok p p := rfl
theorem peek_self (hg : g = 1 ∨ g = 2) (hs : slashT t = false) {g2 : Int} (h2 : g2 ≤ 2) : peekP s g2 (Zs i t g fl ne ar) = .ok t (Zs i t g fl ne ar) := peek_12 (by omega) (by omega) h2 hs
theorem leaf_k (t : Tk) : ¬ (leafN 1 t).kind = 22 := by
 show ¬ (1 : Int) = 22
 decide
theorem left_z (f : Nat) {p : Ps} (h : Nm t) (hg : g = 1 ∨ g = 2) (hp : peekP s 2 p = .ok t (Zs i t g fl ne ar)) (hu : Endy u) (hs : Sees s 1 t.till u) :
  runQ s m (f + 4) .leftHand p = .ok (leafN 1 t) (Zs t.till u 1 fl ne ar) := by
 show leftHandS s (f + 3) (runQ s m (f + 3)) p = _
 unfold leftHandS
 rw [PM.go hp, PM.go (get_z _)]
 show (runQ s m (f + 3) (.base t true) >>= _) _ = _
 rw [PM.go (base_z f h hg true), if_neg (leaf_k t), if_neg (by rw [show decide ((leafN 1 t).text = ⟨#[97, 115, 121, 110, 99]⟩) = false from decide_eq_false h.asy]; simp)]
 unfold leftHandS.linkL
 rw [PM.go (peek_new hs), if_neg (by rw [hu.opt]; decide), PM.go (link_no (f + 2) (leafN 1 t) true true hu (peek_old (by decide))), if_neg (show ¬ ((false : Bool) = true) by decide)]
 rfl
theorem unary_z (f : Nat) {p : Ps} (h : Nm t) (hg : g = 1 ∨ g = 2) (hp : peekP s 2 p = .ok t (Zs i t g fl ne ar)) (hu : Endy u) (hs : Sees s 1 t.till u) :
  runQ s m (f + 5) .unary p = .ok (leafN 1 t) (Zs t.till u 1 fl ne ar) := by
 show unaryS s (runQ s m (f + 4)) p = _
 unfold unaryS
 rw [PM.go hp, if_neg (by rw [h.nameT (by decide), h.nameT (by decide), h.nameT (by decide), h.punctT, h.punctT, h.punctT, h.punctT]; decide), PM.go (get_z _), if_neg (by rw [nameT_ne h.aw]; simp), if_neg (by rw [h.punctT, h.punctT]; decide), PM.go (left_z f h hg (peek_self hg h.sl (by decide)) hu hs), if_neg (leaf_k t), PM.go (peek_old (by decide)), if_neg (by rw [hu.inc, hu.dec]; simp)]
 rfl
theorem operand_z (f : Nat) (least : Int) {p : Ps} (h : Nm t) (hg : g = 1 ∨ g = 2) (hp : peekP s 2 p = .ok t (Zs i t g fl ne ar)) (hu : Endy u) (hs : Sees s 1 t.till u) :
  runQ s m (f + 6) (.operand least) p = .ok (leafN 1 t) (Zs t.till u 1 fl ne ar) := by
 show operandS s (runQ s m (f + 5)) least p = _
 unfold operandS
 rw [PM.go hp, if_pos (by rw [h.kind]; decide)]
 exact unary_z f h hg (peek_self hg h.sl (by decide)) hu hs
end
end
section
open Go.RowKit
def cutL : Nat → ByteArray → Nat → List ByteArray → Nat
 | c, _, _, [] => c
 | c, b, i, o :: os => if levelB o < levelB b ∨ (levelB o = levelB b ∧ o ≠ ⟨#[42, 42]⟩) then cutL i o (i + 1) os else cutL c b (i + 1) os
def cutN : List ByteArray → Nat
 | [] => 0
 | o :: os => cutL 0 o 1 os
inductive Tree : ByteArray → List (ByteArray × ByteArray) → Nd → Prop
 | nil (v : ByteArray) : Tree v [] (.mk 1 v [] 0 0)
 | cut (v : ByteArray) (pre : List (ByteArray × ByteArray)) (o w : ByteArray) (mid : List (ByteArray × ByteArray)) (a b : Nd) : cutN ((pre ++ (o, w) :: mid).map (·.1)) = pre.length → Tree v pre a → Tree w mid b → Tree v (pre ++ (o, w) :: mid) (.mk 29 o [a, b] 0 0)
theorem Tree.uniq {v : ByteArray} {l : List (ByteArray × ByteArray)} {a : Nd} (h : Tree v l a) : ∀ {b : Nd}, Tree v l b → a = b := by
 induction h with
 | nil v =>
  intro b hb
  generalize hl : ([] : List (ByteArray × ByteArray)) = l at hb
  cases hb with
  | nil => rfl
  | cut => simp at hl
 | cut v pre o w mid a b hc _ _ iha ihb =>
  intro n hn
  generalize hl : pre ++ (o, w) :: mid = l at hn
  cases hn with
  | nil => simp at hl
  | cut _ pre2 o2 w2 mid2 a2 b2 hc2 h1 h2 =>
   rw [hl] at hc
   obtain ⟨e1, e2⟩ := List.append_inj hl (hc.symm.trans hc2)
   injection e2 with e2 e3
   injection e2 with e2 e4
   subst e1 e2 e3 e4
   rw [iha h1, ihb h2]
structure Stp (u : Tk) : Prop where
 op : (decide (u.kind ≠ 5) && !nameT u ⟨#[105, 110, 115, 116, 97, 110, 99, 101, 111, 102]⟩ && !nameT u ⟨#[105, 110]⟩) = true ∨ levelB u.text = 0
 e : Endy u
section
variable {s : ByteArray}
theorem bare_id (t : Tk) : bareNd (leafN 1 t) = .mk 1 t.text [] 0 0 := by
 unfold leafN
 rw [bareNd, if_neg (by decide), bareNds]
variable {m : Bool}
theorem operator_no {i ne ar : Int} {u : Tk} (h : Stp u) : ∃ r : Tk × Int, r.2 = 0 ∧ operatorP s (Zs i u 1 1 ne ar) = .ok r (Zs i u 1 1 ne ar) := by
 unfold operatorP
 rw [PM.go (peek_old (by decide)), PM.go (get_z _)]
 have h2 : hasF 1 1 = true := by decide
 show ∃ r : Tk × Int, r.2 = 0 ∧ (if (decide (u.kind ≠ 5) && !nameT u ⟨#[105, 110, 115, 116, 97, 110, 99, 101, 111, 102]⟩ && (!nameT u ⟨#[105, 110]⟩ || !hasF 1 1)) = true then _ else _ : PM (Tk × Int)) _ = _
 rw [h2, Bool.not_true, Bool.or_false]
 rcases h.op with h1 | h1
 ·rw [if_pos h1]
  exact ⟨_, rfl, rfl⟩
 ·split
  ·exact ⟨_, rfl, rfl⟩
  ·exact ⟨_, h1, rfl⟩
end
end
section
open Go.RowKit
section
variable {s : ByteArray} {p : Nat}
theorem tx_lt {c : UInt8} {l : List UInt8} (hd : s.data.toList.drop p = c :: l) : p < s.size := by
 have h := congrArg List.length hd
 rw [List.length_drop, List.length_cons] at h
 show p < s.data.size
 rw [← Array.length_toList]
 omega
theorem tx_next {c : UInt8} {l : List UInt8} (hd : s.data.toList.drop p = c :: l) : s.data.toList.drop (p + 1) = l := by
 rw [← List.drop_drop, hd]
 rfl
theorem tx_app {a l : List UInt8} (hd : s.data.toList.drop p = a ++ l) : s.data.toList.drop (p + a.length) = l := by
 rw [← List.drop_drop, hd, List.drop_left]
theorem tx_fits {a l : List UInt8} (hd : s.data.toList.drop p = a ++ l) (hp : p ≤ s.size) : p + a.length ≤ s.size := by
 have h := congrArg List.length hd
 rw [List.length_drop, List.length_append] at h
 have h2 : s.data.toList.length = s.size := Array.length_toList
 omega
theorem tx_piece {a l : List UInt8} (hd : s.data.toList.drop p = a ++ l) : s.extract p (p + a.length) = ⟨a.toArray⟩ := by
 apply ba_ext
 rw [ByteArray.data_extract, Array.toList_extract, List.extract_eq_take_drop, hd, Nat.add_sub_cancel_left, List.take_left]
theorem btw_32 {l : List UInt8} {line : Bool} (hd : s.data.toList.drop p = 32 :: l) : btw s p line = btw s (p + 1) line := by
 have hlt := tx_lt hd
 have h1 : isGap (32 :: l) = true := by
  unfold isGap
  rw [nx_ascii _ _ (by decide)]
  rfl
 rw [btw_step s p line (by omega), hd, if_pos h1, nx_ascii _ _ (by decide)]
 show btw s (p + 1) (line || endsR 32) = _
 rw [show endsR 32 = false from rfl, Bool.or_false]
def Ink (l : List UInt8) : Prop := isGap l = false ∧ ∀ p, 0 < p → cmKind p l = 0
theorem btw_ink {l : List UInt8} {line : Bool} (hd : s.data.toList.drop p = l) (hp : p ≤ s.size) (h : isGap l = false ∧ cmKind p l = 0) : btw s p line = .fine p line [] := by
 rw [btw_step s p line hp, hd, if_neg (by rw [h.1]; decide), if_pos h.2]
theorem nxt_12 {g : Int} (hg : g = 1 ∨ g = 2) {q : Nat} {line : Bool} {kind : Int} {n : Nat} (hb : btw s p false = .fine q line []) (ht : plainT g (s.data.toList.drop q) = .fine kind n) : nxt s p g = .fine kind q n line [] := by
 unfold nxt tokT
 rcases hg with rfl | rfl <;>
 ·rw [if_neg (by rintro (h | h | ⟨h, _⟩) <;> omega), if_neg (by decide), hb]
  simp only
  rw [if_neg (by decide), if_neg (by decide), if_neg (by decide), ht]
theorem sees_32 {g : Int} (hg : g = 1 ∨ g = 2) {a l : List UInt8} {kind : Int} (hd : s.data.toList.drop p = 32 :: (a ++ l)) (hi : Ink (a ++ l)) (ht : plainT g (a ++ l) = .fine kind a.length) :
  Sees s g p ⟨kind, ⟨a.toArray⟩, ((p + 1 : Nat) : Int), ((p + 1 + a.length : Nat) : Int), false⟩ := by
 have hlt := tx_lt hd
 have hd1 := tx_next hd
 refine ⟨by omega, by omega, p + 1, a.length, ?_, ?_⟩
 ·rw [Int.toNat_natCast]
  refine nxt_12 hg ((btw_32 hd).trans (btw_ink hd1 (by omega) ⟨hi.1, hi.2 _ (by omega)⟩)) ?_
  rw [hd1]
  exact ht
 ·unfold tkOf
  rw [tx_piece hd1]
def endT (p : Nat) : Tk := ⟨0, ⟨#[]⟩, p, p, false⟩
theorem sees_end {g : Int} (hg : g = 1 ∨ g = 2) (hd : s.data.toList.drop p = []) (hp : p ≤ s.size) : Sees s g p (endT p) := by
 refine ⟨by omega, by omega, p, 0, ?_, ?_⟩
 ·rw [Int.toNat_natCast]
  refine nxt_12 hg (btw_ink hd hp ⟨rfl, ?_⟩) ?_
  ·unfold cmKind
   rw [if_neg (by decide), if_neg (by decide), if_neg (by simp [Lib.hasPrefix])]
  ·rw [hd]
   rfl
 ·unfold tkOf endT
  have : s.extract p (p + 0) = ⟨#[]⟩ := tx_piece (a := []) (l := []) hd
  rw [this]
  simp
end
def wordC (c : UInt8) : Bool := decide (c.toNat < 128) && partC (c.toNat : Int)
theorem parts_word {l : List UInt8} (hl : goesP false l = false) : ∀ (a : List UInt8), (∀ c ∈ a, wordC c = true) → partsL false (a ++ l) = a.length
 | [], _ => partsL_no hl
 | c :: a, h => by
  have hc := h c (.head _)
  unfold wordC at hc
  rw [Bool.and_eq_true, decide_eq_true_eq] at hc
  have hg : goesP false (c :: (a ++ l)) = true := by
   unfold goesP
   rw [nx_ascii _ _ hc.1, hc.2]
   rfl
  rw [List.cons_append, partsL_yes hg, nx_ascii _ _ hc.1]
  show 1 + partsL false (a ++ l) = _
  rw [parts_word hl a (fun c hc => h c (.tail _ hc)), List.length_cons]
  omega
theorem name_word {c : UInt8} {a l : List UInt8} (hc : c.toNat < 128) (hs : startC (c.toNat : Int) = true) (ha : ∀ c ∈ a, wordC c = true) (hl : goesP false l = false) : nameL false (c :: (a ++ l)) = a.length + 1 := by
 have hw : ∀ x ∈ c :: a, wordC x = true := by
  intro x hx
  rcases List.mem_cons.1 hx with rfl | hx
  ·unfold wordC partC
   rw [decide_eq_true hc, hs]
   rfl
  ·exact ha x hx
 unfold nameL
 rw [nx_ascii _ _ hc, if_pos ⟨show (0 : Int) < 1 by decide, hs⟩, ← List.cons_append, parts_word hl _ hw, List.length_cons]
theorem pre_no {c d : UInt8} {l w : List UInt8} (h : c ≠ d) : Lib.hasPrefix (c :: l) (d :: w) = false := by
 unfold Lib.hasPrefix
 rw [List.isPrefixOf_cons_cons, beq_eq_false_iff_ne.2 (Ne.symm h), Bool.false_and]
theorem plain_word {g : Int} {c : UInt8} {a l : List UInt8} (hlo : low c) (hs : startC (c.toNat : Int) = true) (ha : ∀ c ∈ a, wordC c = true) (hl : goesP false l = false) (hl2 : 0 ≤ (nx l).2) :
  plainT g (c :: a ++ l) = .fine 1 (c :: a).length := by
 obtain ⟨h1, h2⟩ := hlo
 have hn : ∀ d : UInt8, d.toNat < 97 → c ≠ d := by rintro d hd rfl; omega
 have hdig : digAt (c :: (a ++ l)) = false := by
  unfold digAt
  rw [decide_eq_false_iff_not]
  omega
 have hw := name_word (l := l) (by omega) hs ha hl
 rw [List.cons_append]
 unfold plainT
 rw [if_neg (by simp), if_neg (by rw [pre_no (hn _ (by decide))]; decide), if_neg (by rw [pre_no (hn _ (by decide))]; decide), if_neg (by rw [hdig, pre_no (hn 46 (by decide))]; simp), if_neg (by rw [pre_no (hn _ (by decide)), pre_no (hn _ (by decide))]; simp), if_neg (by rw [pre_no (hn _ (by decide))]; simp), hw, if_pos (by omega)]
 unfold aft
 rw [show (c :: (a ++ l)).drop (a.length + 1) = l by rw [List.drop_succ_cons, List.drop_left], if_neg (by omega), List.length_cons]
theorem tx_get {f : Nat → Bool} {m : Nat} (h : (List.range m).all f = true) (n : Nat) (hn : n < m) : f n = true := List.all_eq_true.1 h n (List.mem_range.2 hn)
theorem gap_row : (List.range 127).all (fun n => decide (n < 33) || !(endsR (n : Int) || blankR (n : Int))) = true := by kernel_rfl
theorem low_row : (List.range 127).all (fun n => decide (n < 97 ∨ 122 < n) || startC (n : Int)) = true := by kernel_rfl
theorem ink_of {c : UInt8} {l : List UInt8} (h1 : 33 ≤ c.toNat) (h2 : c.toNat < 127) (h3 : c ≠ 47) (h4 : c ≠ 35) : Ink (c :: l) := by
 refine ⟨?_, fun p hp => ?_⟩
 ·unfold isGap
  rw [nx_ascii _ _ (by omega)]
  show (decide ((0 : Int) < 1) && (endsR (c.toNat : Int) || blankR (c.toNat : Int))) = false
  have h := (Bool.or_eq_true _ _).mp (tx_get gap_row c.toNat h2)
  rw [Bool.not_eq_true', decide_eq_true_eq] at h
  rw [h.resolve_left (by omega), Bool.and_false]
 ·unfold cmKind
  rw [if_neg (by rw [pre_no h3]; decide), if_neg (by rw [pre_no h3]; decide), if_neg (by rw [pre_no h4]; simp)]
theorem low_start {c : UInt8} (h : low c) : startC (c.toNat : Int) = true := by
 obtain ⟨h1, h2⟩ := h
 have h := tx_get low_row c.toNat (by omega)
 simp only [Bool.or_eq_true, decide_eq_true_eq] at h
 exact h.resolve_left (by omega)
theorem part_32 : partC (((32 : UInt8).toNat : Nat) : Int) = false := by kernel_rfl
theorem goes_32 (l : List UInt8) : goesP false (32 :: l) = false := by
 unfold goesP
 rw [nx_ascii _ _ (by decide)]
 simp only [part_32, Bool.false_and, Bool.or_false, Bool.and_false]
theorem nx_32 (l : List UInt8) : 0 ≤ (nx (32 :: l)).2 := by
 rw [nx_ascii _ _ (by decide)]
 decide
end
section
open Go.RowKit
def opsRow : List (List UInt8) := [[124, 124], [38, 38], [124], [94], [38], [61, 61], [33, 61], [61, 61, 61], [33, 61, 61], [60], [62], [60, 61], [62, 61], [105, 110], [105, 110, 115, 116, 97, 110, 99, 101, 111, 102], [60, 60], [62, 62], [62, 62, 62], [43], [45], [42], [47], [37], [42, 42]]
def markC (c : UInt8) : Bool := decide (c.toNat < 128) && !startC (c.toNat : Int) && decide (c ≠ 96 ∧ c ≠ 35 ∧ c ≠ 46 ∧ c ≠ 39 ∧ c ≠ 34 ∧ ¬ (48 ≤ c.toNat ∧ c.toNat ≤ 57))
theorem plain_mark {c : UInt8} {l : List UInt8} {n : Nat} (hc : markC c = true) (hp : pct 1 (c :: l) = n) (hn : n ≠ 0) : plainT 1 (c :: l) = .fine 5 n := by
 unfold markC at hc
 rw [Bool.and_eq_true, Bool.and_eq_true, decide_eq_true_eq, decide_eq_true_eq, Bool.not_eq_true'] at hc
 obtain ⟨⟨h1, h2⟩, h3, h4, h5, h6, h7, h8⟩ := hc
 have hdig : digAt (c :: l) = false := by
  unfold digAt
  rw [decide_eq_false_iff_not]
  exact h8
 have hname : nameL false (c :: l) = 0 := by
  unfold nameL
  rw [nx_ascii _ _ h1, if_neg]
  rintro ⟨_, h⟩
  simp only at h
  rw [h2] at h
  cases h
 unfold plainT
 rw [if_neg (by simp), if_neg (by rw [pre_no h3]; decide), if_neg (by rw [pre_no h4]; decide), if_neg (by rw [hdig, pre_no h5]; simp), if_neg (by rw [pre_no h6, pre_no h7]; simp), if_neg (by rintro ⟨h, _⟩; omega), if_neg (by rw [hname]; simp), hp, if_pos hn]
def txtR : List (List UInt8 × List UInt8) → List UInt8
 | [] => []
 | x :: l => 32 :: (x.1 ++ 32 :: ((118 :: x.2) ++ txtR l))
theorem end_stp (p : Nat) : Stp (endT p) := ⟨.inr rfl, ⟨rfl, rfl, rfl, rfl, (show ¬ (0 : Int) = 7 by decide), (show ¬ (0 : Int) = 8 by decide), rfl, rfl⟩⟩
end
section
open Go.RowKit
section
variable {s : ByteArray} {m : Bool} {i g fl ne ar : Int} {u v : Tk} {n : Nd} {p : Ps} {f : Nat}
theorem cond_z (hb : runQ s m f (.binary 1 false) p = .ok n (Zs i u 1 fl ne ar)) (hk : n.kind ≠ 22) (hq : punctT u ⟨#[63]⟩ = false) : runQ s m (f + 1) .cond p = .ok n (Zs i u 1 fl ne ar) := by
 show condS s (runQ s m f) p = _
 unfold condS
 rw [PM.go hb, if_neg hk, PM.go (is_no (peek_old (by decide)) hq), if_neg (by decide)]
 rfl
theorem assigned_z (hk : n.kind ≠ 22) (ha : assigningT u = false) : runQ s m (f + 1) (.assigned n) (Zs i u 1 fl ne ar) = .ok n (Zs i u 1 fl ne ar) := by
 show assignedS s (runQ s m f) n _ = _
 unfold assignedS
 rw [if_neg hk, PM.go (peek_old (by decide)), if_neg (by rw [ha]; decide)]
 rfl
theorem deeper_z {α : Type} {x : PM α} {i' : Int} {u' : Tk} {g' fl' ar' place : Int} {a : α} (h0 : 0 ≤ ne) (h1 : ne < 4000) (hx : x (Zs i u g fl (ne + 1) ar) = .ok a (Zs i' u' g' fl' (ne + 1) ar')) : deeperP place x (Zs i u g fl ne ar) = .ok a (Zs i' u' g' fl' ne ar') := by
 unfold deeperP
 show (if 4000 ≤ ne then _ else _) = _
 rw [if_neg (by omega)]
 show PM.bind x _ (Zs i u g fl (ne + 1) ar) = _
 unfold PM.bind
 rw [hx]
 show (if ne + 1 ≤ 0 then _ else _) = _
 rw [if_neg (by omega)]
 show Res.ok a (Zs _ _ _ _ (ne + 1 - 1) _) = _
 rw [Int.add_sub_cancel]
 rfl
theorem expression_z (ha : runQ s m f .assign p = .ok n (Zs i u 1 fl ne ar)) (hc : punctT u ⟨#[44]⟩ = false) : runQ s m (f + 1) .expression p = .ok n (Zs i u 1 fl ne ar) := by
 show expressionS s f (runQ s m f) p = _
 unfold expressionS
 rw [PM.go ha, PM.go (peek_old (by decide)), if_neg (by rw [hc]; decide)]
 rfl
theorem expr_z (he : runQ s m f .expression (ps0 m) = .ok n (Zs i u 1 fl ne ar)) (hu : u.kind = 0) (hn : noProp n = true) (hz : ndSize n ≤ 8000) : exprQ s m f = .ok n (Zs i u 1 fl ne ar) := by
 have hd := deep_le n
 unfold exprQ readQ expr1S
 rw [PM.go (show _ = Res.ok n (Zs i u 1 fl ne ar) by rw [PM.go he, PM.go (peek_old (by decide)), if_pos hu]; rfl), if_neg (by rw [hn]; decide), if_neg (by omega), if_neg (by omega)]
 rfl
end
end
section
open Go.RowKit
def IntsArg (w : World) (ao : Option Addr) (len : Nat) : Prop := ∀ j, j < len → ∃ b off, ao = some ⟨b, off, none⟩ ∧ b < w.heap.size ∧ ∃ z : Int, w.cell? ⟨b, off + j, none⟩ = some (.int .i64 z)
def rowL : Nat → List (List UInt8) → List (List UInt8 × List UInt8)
 | _, [] => []
 | k, o :: os => (o, dcl (k + 1)) :: rowL (k + 1) os
theorem rowL_snoc : ∀ (os : List (List UInt8)) (k : Nat) (o : List UInt8), rowL k (os ++ [o]) = rowL k os ++ [(o, dcl (k + os.length + 1))]
 | [], _, _ => rfl
 | a :: os, k, o => by
  rw [List.cons_append, rowL, rowL, rowL_snoc os, List.cons_append, List.length_cons, show k + 1 + os.length + 1 = k + (os.length + 1) + 1 by omega]
theorem txtR_snoc : ∀ (a : List (List UInt8 × List UInt8)) (x : List UInt8 × List UInt8), txtR (a ++ [x]) = txtR a ++ 32 :: (x.1 ++ 32 :: 118 :: x.2)
 | [], x => by simp [txtR]
 | y :: a, x => by rw [List.cons_append, txtR, txtR, txtR_snoc a x]; simp
theorem opsRow_len : ∀ o ∈ opsRow, o.length ≤ 10 := by decide
theorem pickN (i : Int) (n : Nat) (hn : 0 < n) : ∃ a : Nat, (IntKind.u64.wrap i).tmod n = (a : Int) ∧ a < n := by
 have e : IntKind.u64.wrap i = i % 18446744073709551616 := rfl
 have h1 : 0 ≤ (IntKind.u64.wrap i).tmod n := by rw [e, Int.tmod_eq_emod_of_nonneg (by omega)]; exact Int.emod_nonneg _ (by omega)
 have h2 : (IntKind.u64.wrap i).tmod n < n := by rw [e, Int.tmod_eq_emod_of_nonneg (by omega)]; exact Int.emod_lt_of_pos _ (by omega)
 exact ⟨((IntKind.u64.wrap i).tmod n).toNat, by omega, by omega⟩
def StrS (g : Nat) (l : List (List UInt8)) (W : World) : Prop := g < W.heap.size ∧ ∀ a, (h : a < l.length) → W.cell? ⟨g, a, none⟩ = some (.string ⟨l[a].toArray⟩)
theorem StrS.new (w : World) (l : List (List UInt8)) (T : TypeId) : StrS w.heap.size l (w.alloc (.cells (l.map fun o => Value.string ⟨o.toArray⟩).toArray T)) := by
 refine ⟨by rw [World.size_alloc]; exact Nat.lt_succ_self _, fun a h => ?_⟩
 rw [cell_of_row _ _ _ _ T (0, 0) (heap_alloc_new _ _), List.getElem?_toArray, List.getElem?_map, List.getElem?_eq_getElem h]
 rfl
theorem StrS.bel {g : Nat} {l : List (List UInt8)} {w w' : World} (h : StrS g l w) (hb : Below w.heap.size w w') : StrS g l w' :=
 ⟨Nat.lt_of_lt_of_le h.1 hb.size, fun a ha => (World.cell?_of_block (hb.block g h.1)).trans (h.2 a ha)⟩
theorem StrS.lay {g r : Nat} {l : List (List UInt8)} {w : World} (h : StrS g l w) (hr : g ≠ r) (k : Int) (t : ByteArray) (v : Value) (f u : Int) : StrS g l (lay5 w r k t v f u) :=
 ⟨by rw [lay5_size]; exact h.1, fun a ha => (World.cell?_of_block (lay5_block _ _ _ _ _ _ _ _ hr)).trans (h.2 a ha)⟩
theorem push_bel2 {B : Nat} {a w w1 : World} {o : Obj} {v : Value} {T : TypeId} {n m : Nat} {xs : List Value} (hb : Below B a w) (hB : B ≤ w.heap.size) (ho : w.ownsRow B T m v n xs) (hg : (w.alloc o).grownBy w1 v.ownBlock) : Below B a w1 := by
 refine (hb.alloc hB o).grown hg ?_ ?_
 ·rw [World.size_alloc]; omega
 ·intro k hk
  rcases ho.2 with ⟨rfl, _⟩ | ⟨g, cap, cur, rfl, h, _⟩
  ·cases hk
  ·cases hk; exact h
structure OSt (w : World) (os : List (List UInt8)) (ov sv : Value) (wr : World) : Prop where
 own : wr.ownsRow w.heap.size 9 1 ov os.length (os.map fun o => Value.string ⟨o.toArray⟩)
 bel : Below w.heap.size w wr
 mem : ∀ o ∈ os, o ∈ opsRow
 txt : ∃ S : ByteArray, sv = .string S ∧ S.data.toList = (118 :: dcl 0) ++ txtR (rowL 0 os) ∧ S.size ≤ 20 * os.length + 2
theorem OSt.next {w wr w2 w3 : World} {os : List (List UInt8)} {ov v : Value} {S X t : ByteArray} {o : List UInt8} {ob : Obj} {m : Nat} (h : OSt w os ov (.string S) wr) (hm : os.length = m) (hk : m < 40) (ho : o ∈ opsRow) (ht : (⟨o.toArray⟩ : ByteArray) = t) (hg : (wr.alloc ob).grownBy w2 ov.ownBlock)
  (hown : w2.ownsRow w.heap.size 9 1 v (m + 1) ((os.map fun o => Value.string ⟨o.toArray⟩) ++ [.string t])) (hb : Below w2.heap.size w2 w3) (hX : X.data.toList = S.data.toList ++ 32 :: (o ++ 32 :: 118 :: dcl (m + 1))) :
  OSt w (os ++ [o]) v (.string X) w3 := by
 subst hm
 subst ht
 refine ⟨?_, bel_next (push_bel2 h.bel h.bel.size h.own hg) hb, ?_, X, rfl, ?_, ?_⟩
 ·rw [List.length_append, List.map_append]
  exact own_below hown hb
 ·intro x hx
  rcases List.mem_append.1 hx with hx | hx
  ·exact h.mem x hx
  ·rw [List.mem_singleton.1 hx]; exact ho
 ·obtain ⟨S', e, h1, _⟩ := h.txt
  injection e with e
  subst e
  rw [rowL_snoc, txtR_snoc, hX, h1, Nat.zero_add]
  simp
 ·obtain ⟨S', e, h1, h2⟩ := h.txt
  injection e with e
  subst e
  have h3 := opsRow_len o ho
  have h4 := (dcl_row ⟨os.length + 1, by omega⟩).1
  simp only at h4
  have h5 := ba_size hX
  have h6 : S.data.toList.length = S.size := Array.length_toList
  rw [List.length_append, h6] at h5
  simp at h5 ⊢
  omega
end
section
open Go.RowKit
theorem Sees.uniq {s : ByteArray} {g i : Int} {t u : Tk} (h : Sees s g i t) (k : Sees s g i u) : t = u := by
 obtain ⟨_, _, q, n, h1, h2⟩ := h
 obtain ⟨_, _, q', n', k1, k2⟩ := k
 rw [h1] at k1
 injection k1 with e1 e2 e3 e4
 rw [← h2, ← k2, e1, e2, e3, e4]
section
variable {s : ByteArray} {m : Bool} {i g fl ne ar : Int} {u v t d b e : Tk} {n : Nd} {p : Ps} {f : Nat}
def sgB (t : Tk) : Bool := nameT t ⟨#[100, 101, 108, 101, 116, 101]⟩ || nameT t ⟨#[118, 111, 105, 100]⟩ || nameT t ⟨#[116, 121, 112, 101, 111, 102]⟩ || punctT t ⟨#[43]⟩ || punctT t ⟨#[45]⟩ || punctT t ⟨#[126]⟩ || punctT t ⟨#[33]⟩
structure SgT (o : Tk) : Prop where
 k2 : o.kind ≠ 2
 yi : nameT o ⟨#[121, 105, 101, 108, 100]⟩ = false
 asy : nameT o ⟨#[97, 115, 121, 110, 99]⟩ = false
 aw : nameT o ⟨#[97, 119, 97, 105, 116]⟩ = false
 arr : punctT o ⟨#[61, 62]⟩ = false
def Sg1 (o : Tk) : Prop := sgB o = true ∧ o.text ≠ ⟨#[43, 43]⟩ ∧ o.text ≠ ⟨#[45, 45]⟩
def Sg2 (o : Tk) : Prop := sgB o = false ∧ (punctT o ⟨#[43, 43]⟩ || punctT o ⟨#[45, 45]⟩) = true
def SgR (s : ByteArray) (e : Tk) : Int → List Tk → Prop
 | i, [] => ∃ t d b : Tk, Nm t ∧ Sees s 2 i t ∧ Sees s 1 i t ∧ Sees s 1 t.till d ∧ punctT d ⟨#[46]⟩ = true ∧ Sees s 1 d.till b ∧ b.kind = 1 ∧ Sees s 1 b.till e ∧ t.text = ⟨#[97]⟩ ∧ b.text = ⟨#[98]⟩
 | i, o :: l => Sees s 2 i o ∧ Sees s 1 i o ∧ SgT o ∧ (Sg1 o ∨ (Sg2 o ∧ l = [])) ∧ SgR s e o.till l
theorem SgR.head {l : List Tk} (h : SgR s e i l) : ∃ v, Sees s 2 i v ∧ Sees s 1 i v ∧ v.kind ≠ 2 ∧ nameT v ⟨#[121, 105, 101, 108, 100]⟩ = false ∧ nameT v ⟨#[97, 115, 121, 110, 99]⟩ = false ∧ punctT v ⟨#[61, 62]⟩ = false := by
 cases l with
 | nil =>
  obtain ⟨t, d, b, h1, h2, h3, _⟩ := h
  exact ⟨t, h2, h3, by rw [h1.kind]; decide, h1.nameT (by decide), nameT_ne h1.asy, h1.punctT _⟩
 | cons o l => exact ⟨o, h.1, h.2.1, h.2.2.1.k2, h.2.2.1.yi, h.2.2.1.asy, h.2.2.1.arr⟩
theorem bin_end (ho : runQ s m (f + 1) (.operand 1) p = .ok n (Zs i u 1 1 ne ar)) (hk : n.kind ≠ 22) (hu : Stp u) : runQ s m (f + 2) (.binary 1 false) p = .ok n (Zs i u 1 1 ne ar) := by
 show binaryS s (f + 1) (runQ s m (f + 1)) 1 false p = _
 unfold binaryS
 rw [PM.go ho, if_neg hk]
 obtain ⟨r, r1, r2⟩ := operator_no (s := s) (i := i) (ne := ne) (ar := ar) hu
 unfold binaryS.opsL
 rw [PM.go r2, if_pos (.inr r1)]
 rfl
theorem single_any (hv : nameT v ⟨#[97, 115, 121, 110, 99]⟩ = false) (hu : Sees s 1 v.till u) (har : punctT u ⟨#[61, 62]⟩ = false) : assignS.single s m v (Zs i v g fl ne ar) = .ok false (Zs i v g fl ne ar) := by
 unfold assignS.single
 rw [PM.go (get_z _), if_neg (by rw [hv]; decide)]
 show ((pure v : PM Tk) >>= _) _ = _
 rw [PM.go (show (pure v : PM Tk) (Zs i v g fl ne ar) = .ok v (Zs i v g fl ne ar) from rfl), PM.go (look_z hu _), if_pos (by rw [har]; simp)]
 rfl
theorem assign_any {i' g' fl' ar' i2 g2 fl2 ar2 : Int} {u' u2 : Tk} {n2 : Nd} (hy : nameT v ⟨#[121, 105, 101, 108, 100]⟩ = false) (hv : nameT v ⟨#[97, 115, 121, 110, 99]⟩ = false) (hp : peekP s 2 p = .ok v (Zs i v g fl ne ar)) (hu : Sees s 1 v.till u) (har : punctT u ⟨#[61, 62]⟩ = false) (h0 : 0 ≤ ne) (h1 : ne < 4000)
  (hc : runQ s m f .cond (Zs i v g fl (ne + 1) v.from') = .ok n (Zs i' u' g' fl' (ne + 1) ar')) (ha : runQ s m f (.assigned n) (Zs i' u' g' fl' (ne + 1) ar') = .ok n2 (Zs i2 u2 g2 fl2 (ne + 1) ar2)) :
  runQ s m (f + 1) .assign p = .ok n2 (Zs i2 u2 g2 fl2 ne ar2) := by
 show assignS s m (runQ s m f) p = _
 unfold assignS
 rw [PM.go hp]
 refine deeper_z h0 h1 ?_
 rw [PM.go (get_z _), if_neg (by rw [hy]; simp), PM.go (single_any hv hu har), if_neg (by decide)]
 rw [PM.go (show modP (fun q => { q with arrow := v.from' }) (Zs i v g fl (ne + 1) ar) = .ok () (Zs i v g fl (ne + 1) v.from') from rfl), PM.go hc]
 exact ha
end
end
section
open Go.RowKit
section
variable {s : ByteArray} {p : Nat}
def Ink0 (l : List UInt8) : Prop := isGap l = false ∧ ∀ p, cmKind p l = 0
theorem ink0_of {c : UInt8} {l : List UInt8} (h1 : 33 ≤ c.toNat) (h2 : c.toNat < 127) (h3 : c ≠ 47) (h4 : c ≠ 35) : Ink0 (c :: l) := by
 refine ⟨(ink_of h1 h2 h3 h4).1, fun p => ?_⟩
 unfold cmKind
 rw [if_neg (by rw [pre_no h3]; decide), if_neg (by rw [pre_no h3]; decide), if_neg (by rw [pre_no h4]; simp)]
theorem sees_adj {g : Int} (hg : g = 1 ∨ g = 2) {a l : List UInt8} {kind : Int} (hd : s.data.toList.drop p = a ++ l) (hp : p ≤ s.size) (hi : Ink0 (a ++ l)) (ht : plainT g (a ++ l) = .fine kind a.length) :
  Sees s g p ⟨kind, ⟨a.toArray⟩, (p : Int), ((p + a.length : Nat) : Int), false⟩ := by
 refine ⟨by omega, by omega, p, a.length, ?_, ?_⟩
 ·rw [Int.toNat_natCast]
  refine nxt_12 hg (btw_ink hd hp ⟨hi.1, hi.2 _⟩) ?_
  rw [hd]
  exact ht
 ·unfold tkOf
  rw [tx_piece hd]
theorem sees_at {a l : List UInt8} {kind : Int} (hd : s.data.toList.drop p = a ++ l ∨ s.data.toList.drop p = 32 :: (a ++ l)) (hp : p ≤ s.size) (hi : Ink0 (a ++ l)) (ht : ∀ g : Int, g = 1 ∨ g = 2 → plainT g (a ++ l) = .fine kind a.length) :
  ∃ (q : Nat) (fr : Int), q ≤ s.size ∧ s.data.toList.drop q = l ∧ ∀ g : Int, g = 1 ∨ g = 2 → Sees s g p ⟨kind, ⟨a.toArray⟩, fr, (q : Int), false⟩ := by
 rcases hd with hd | hd
 ·exact ⟨p + a.length, p, tx_fits hd hp, tx_app hd, fun g hg => sees_adj hg hd hp hi (ht g hg)⟩
 ·have hlt := tx_lt hd
  exact ⟨p + 1 + a.length, ((p + 1 : Nat) : Int), tx_fits (tx_next hd) hlt, tx_app (tx_next hd), fun g hg => sees_32 hg hd ⟨hi.1, fun p _ => hi.2 p⟩ (ht g hg)⟩
end
theorem sees_nm {s : ByteArray} {p : Nat} {c : UInt8} {l : List UInt8} (hc : low c) (hw : Nm ⟨1, ⟨#[c]⟩, 0, 0, false⟩) (hd : s.data.toList.drop p = c :: l ∨ s.data.toList.drop p = 32 :: c :: l) (hp : p ≤ s.size) (hl : goesP false l = false) (hl2 : 0 ≤ (nx l).2) :
  ∃ (q : Nat) (v : Tk), q ≤ s.size ∧ s.data.toList.drop q = l ∧ v.till = (q : Int) ∧ Nm v ∧ v.text = ⟨#[c]⟩ ∧ ∀ g : Int, g = 1 ∨ g = 2 → Sees s g p v := by
 have h1 := hc.1
 have h2 := hc.2
 obtain ⟨q, fr, q1, q2, q3⟩ := sees_at (a := [c]) (l := l) (kind := 1) hd hp (ink0_of (by omega) (by omega) (by rintro rfl; simp at h1) (by rintro rfl; simp at h1)) (fun g hg => plain_word (a := []) hc (low_start hc) (fun x hx => by cases hx) hl hl2)
 exact ⟨q, ⟨1, ⟨#[c]⟩, fr, (q : Int), false⟩, q1, q2, rfl, ⟨hw.kind, hw.res, hw.aw, hw.asy, hw.sl⟩, rfl, q3⟩
theorem nm_a : Nm ⟨1, ⟨#[97]⟩, 0, 0, false⟩ := ⟨rfl, by decide, by decide, by decide, rfl⟩
theorem nm_c : Nm ⟨1, ⟨#[99]⟩, 0, 0, false⟩ := ⟨rfl, by decide, by decide, by decide, rfl⟩
theorem nm_t : Nm ⟨1, ⟨#[116]⟩, 0, 0, false⟩ := ⟨rfl, by decide, by decide, by decide, rfl⟩
theorem nm_v : Nm ⟨1, ⟨#[118]⟩, 0, 0, false⟩ := ⟨rfl, by decide, by decide, by decide, rfl⟩
end
section
open Go.RowKit
def baO (os : List (List UInt8)) : List ByteArray := os.map fun o => ⟨o.toArray⟩
end
section
open Go.RowKit
theorem WSt.first {w0 w : World} (hb : Below w0.heap.size w0 w) {ns : List Kd} (hn : ∀ x ∈ ns, x.1.kids.length ≤ x.2.2 ∧ RowA w (w.heap.size + 1) w.heap.size x.1.kids x.2.1) {m : Nat} (hm : ns.length = m) (k : Int) (t : ByteArray) :
  WSt w0 (w.heap.size + 1) (.mk k t (ns.map (·.1)) 0 0) ((w.alloc (.cells (ns.flatMap cells5).toArray 31)).alloc (.cells #[.int .i64 k, .string t, .slice (some ⟨w.heap.size, 0, none⟩) m m, .int .i64 0, .int .i64 0] 31)) := by
 subst hm
 have hnew := heap_alloc_new (w.alloc (.cells (ns.flatMap cells5).toArray 31)) (.cells #[.int .i64 k, .string t, .slice (some ⟨w.heap.size, 0, none⟩) ns.length ns.length, .int .i64 0, .int .i64 0] 31)
 rw [World.size_alloc] at hnew
 refine ⟨⟨some ⟨w.heap.size, 0, none⟩, ns.length, ?_, ?_, ?_⟩, (hb.alloc hb.size _).alloc (by rw [World.size_alloc]; have := hb.size; omega) _, by have := hb.size; omega⟩
 ·show NdBoxV _ _ k t (.slice _ (ns.map (·.1)).length _) 0 0
  rw [List.length_map]
  exact hnew
 ·show (ns.map (·.1)).length ≤ _
  rw [List.length_map]
  exact Nat.le_refl _
 ·exact (RowA.new (w := w) (W := w.alloc (.cells (ns.flatMap cells5).toArray 31)) ns hn (by omega) (heap_alloc_new _ _) fun k hk _ => Below.heap_alloc _ _ _ hk).bel (fun k hk _ => Below.heap_alloc _ _ _ (by rw [World.size_alloc]; exact hk)) (by rw [World.size_alloc, World.size_alloc]; omega)
end
section
open Go.RowKit
section
variable {s : ByteArray} {m : Bool} {i g fl ne ar : Int} {u v t d b e : Tk} {n : Nd} {p : Ps} {f : Nat}
theorem binary_nm (f : Nat) (h : Nm v) (hg : g = 1 ∨ g = 2) (hp : peekP s 2 p = .ok v (Zs i v g 1 ne ar)) (hu : Sees s 1 v.till u) (hst : Stp u) : runQ s m (f + 7) (.binary 1 false) p = .ok (leafN 1 v) (Zs v.till u 1 1 ne ar) :=
 bin_end (operand_z f 1 h hg hp hst.e hu) (leaf_k v) hst
theorem assign_nm (f : Nat) (h : Nm v) (hg : g = 1 ∨ g = 2) (hp : peekP s 2 p = .ok v (Zs i v g 1 ne ar)) (hu : Sees s 1 v.till u) (hst : Stp u) (hq : punctT u ⟨#[63]⟩ = false) (ha : assigningT u = false) (har : punctT u ⟨#[61, 62]⟩ = false) (h0 : 0 ≤ ne) (h1 : ne < 4000) :
  runQ s m (f + 9) .assign p = .ok (leafN 1 v) (Zs v.till u 1 1 ne v.from') :=
 assign_any (nameT_ne (h.ne (by decide))) (nameT_ne h.asy) hp hu har h0 h1 (cond_z (binary_nm f h hg (peek_self hg h.sl (by decide)) hu hst) (leaf_k v) hq) (assigned_z (leaf_k v) ha)
theorem assigned_yes {r : Nd} {j ar2 : Int} (hk : n.kind ≠ 22) (ht : targetB n = true) (hz : ndSize n ≤ 4194304) (ha : assigningT u = true) (hr : runQ s m f .assign (Zs u.till u 0 fl ne ar) = .ok r (Zs j e 1 fl ne ar2)) :
  runQ s m (f + 1) (.assigned n) (Zs i u 1 fl ne ar) = .ok (.mk 30 u.text [n, r] n.from' j) (Zs j e 1 fl ne ar2) := by
 show assignedS s (runQ s m f) n _ = _
 unfold assignedS
 rw [if_neg hk, PM.go (peek_old (by decide)), if_pos ha]
 have h2 : (if u.text = ⟨#[61]⟩ then patternP n else do
   targetP n
   return n : PM Nd) (Zs i u 1 fl ne ar) = .ok n (Zs i u 1 fl ne ar) := by
  split
  ·unfold patternP
   rw [PM.go (get_z _), if_neg (by show ¬ ((!([] : List Int).isEmpty && _) = true); simp)]
   unfold coverP
   rw [if_pos (by rw [ht, decide_eq_true hz]; rfl)]
   rfl
  ·unfold targetP
   rw [if_pos ht]
   rfl
 rw [PM.go h2, PM.go take_z, PM.go hr]
 rfl
theorem setF_1 : setF 1 1 0 = 1 := by first | rfl | decide | kernel_rfl
theorem with_z {α : Type} {x : PM α} {y : α} {i' g' ar' : Int} {u' : Tk} (hx : x (Zs i u g 1 ne ar) = .ok y (Zs i' u' g' 1 ne ar')) : withP 1 0 x (Zs i u g 1 ne ar) = .ok y (Zs i' u' g' 1 ne ar') := by
 have e : ({ Zs i u g 1 ne ar with flags := setF (Zs i u g 1 ne ar).flags 1 0 } : Ps) = Zs i u g 1 ne ar := by
  show (⟨i, u, [], g, [], setF 1 1 0, ne, ar, []⟩ : Ps) = _
  rw [setF_1]
  rfl
 unfold withP
 rw [e]
 unfold PM.bind
 rw [hx]
 rfl
theorem cond_yes {t r : Nd} {i2 j ar2 ar3 : Int} (hb : runQ s m (f + 1) (.binary 1 false) p = .ok n (Zs i u 1 1 ne ar)) (hk : n.kind ≠ 22) (hq : punctT u ⟨#[63]⟩ = true) (ht : runQ s m f .assign (Zs u.till u 0 1 ne ar) = .ok t (Zs i2 d 1 1 ne ar2)) (hd : punctT d ⟨#[58]⟩ = true)
  (hr : runQ s m (f + 1) .assign (Zs d.till d 0 1 ne ar2) = .ok r (Zs j e 1 1 ne ar3)) : runQ s m (f + 2) .cond p = .ok (.mk 31 ⟨#[]⟩ [n, t, r] n.from' j) (Zs j e 1 1 ne ar3) := by
 show condS s (runQ s m (f + 1)) p = _
 unfold condS
 rw [PM.go hb, if_neg hk, PM.go (is_yes (peek_old (by decide)) hq), if_pos rfl]
 have h2 : runQ s m (f + 1) .innerAssign (Zs u.till u 0 1 ne ar) = .ok t (Zs i2 d 1 1 ne ar2) := by
  show innerAssignS (runQ s m f) _ = _
  unfold innerAssignS
  exact with_z ht
 rw [PM.go h2, PM.go (want_yes (peek_old (by decide)) hd), PM.go hr]
 rfl
def AsR (s : ByteArray) (e : Tk) : Int → List (Tk × Tk × Option (Tk × Tk)) → Prop
 | i, [] => ∃ v : Tk, Nm v ∧ v.text = ⟨#[118]⟩ ∧ Sees s 2 i v ∧ Sees s 1 i v ∧ Sees s 1 v.till e
 | i, (a, o, none) :: l => Nm a ∧ a.text = ⟨#[97]⟩ ∧ Sees s 2 i a ∧ Sees s 1 a.till o ∧ Stp o ∧ punctT o ⟨#[61, 62]⟩ = false ∧ punctT o ⟨#[63]⟩ = false ∧ assigningT o = true ∧ AsR s e o.till l
 | i, (a, o, some (t, d)) :: l => Nm a ∧ a.text = ⟨#[99]⟩ ∧ Sees s 2 i a ∧ Sees s 1 a.till o ∧ Stp o ∧ punctT o ⟨#[61, 62]⟩ = false ∧ punctT o ⟨#[63]⟩ = true ∧
   Nm t ∧ t.text = ⟨#[116]⟩ ∧ Sees s 2 o.till t ∧ Sees s 1 t.till d ∧ Stp d ∧ punctT d ⟨#[58]⟩ = true ∧ AsR s e d.till l
def asN : List ByteArray → Nd
 | [] => .mk 1 ⟨#[118]⟩ [] 0 0
 | o :: l => if o = ⟨#[63]⟩ then .mk 31 ⟨#[]⟩ [.mk 1 ⟨#[99]⟩ [] 0 0, .mk 1 ⟨#[116]⟩ [] 0 0, asN l] 0 0 else .mk 30 o [.mk 1 ⟨#[97]⟩ [] 0 0, asN l] 0 0
theorem AsR.head {l : List (Tk × Tk × Option (Tk × Tk))} (h : AsR s e i l) : ∃ v, Sees s 2 i v ∧ Nm v := by
 match l, h with
 | [], ⟨v, h1, _, h2, _⟩ => exact ⟨v, h2, h1⟩
 | (a, o, none) :: l, ⟨h1, _, h2, _⟩ => exact ⟨a, h2, h1⟩
 | (a, o, some (t, d)) :: l, ⟨h1, _, h2, _⟩ => exact ⟨a, h2, h1⟩
theorem colon_no (hd : punctT d ⟨#[58]⟩ = true) : punctT d ⟨#[63]⟩ = false ∧ assigningT d = false ∧ punctT d ⟨#[61, 62]⟩ = false := by
 unfold punctT at hd
 rw [Bool.and_eq_true, decide_eq_true_eq, decide_eq_true_eq] at hd
 unfold punctT assigningT
 rw [hd.2]
 exact ⟨by rw [decide_eq_false (show ¬ ((⟨#[58]⟩ : ByteArray) = ⟨#[63]⟩) by decide), Bool.and_false], by rw [show oneOf (⟨#[58]⟩ : ByteArray) _ = false from by decide, Bool.and_false], by rw [decide_eq_false (show ¬ ((⟨#[58]⟩ : ByteArray) = ⟨#[61, 62]⟩) by decide), Bool.and_false]⟩
theorem bare_kids {k : Int} {x : ByteArray} {ks : List Nd} {y z : Int} (h : ¬ k = 26) : bareNd (.mk k x ks y z) = .mk k x (bareNds ks) 0 0 := by
 rw [bareNd, if_neg h]
theorem assign_as (he : Stp e) (hq : punctT e ⟨#[63]⟩ = false) (hae : assigningT e = false) (har : punctT e ⟨#[61, 62]⟩ = false) (F : Nat) : ∀ (l : List (Tk × Tk × Option (Tk × Tk))) (i g ne ar : Int) (v : Tk) (p : Ps), AsR s e i l → (g = 1 ∨ g = 2) → Sees s 2 i v → peekP s 2 p = .ok v (Zs i v g 1 ne ar) → 0 ≤ ne → ne + l.length ≤ 3990 →
  ∃ n till ar2, runQ s m (F + 2 * l.length + 14) .assign p = .ok n (Zs till e 1 1 ne ar2) ∧ bareNd n = asN (l.map (·.2.1.text)) ∧ noProp n = true ∧ ndSize n ≤ 3 * l.length + 1
 | [], i, g, ne, ar, v, p, hr, hg, hv, hp, h0, h1 => by
  obtain ⟨a, a1, a2, a3, a4, a5⟩ := hr
  obtain rfl := hv.uniq a3
  refine ⟨leafN 1 v, v.till, v.from', assign_nm (F + 5) a1 hg hp a5 he hq hae har h0 (by simp at h1; omega), ?_, rfl, Nat.le_refl _⟩
  rw [bare_id, a2]
  rfl
 | (a, o, none) :: l, i, g, ne, ar, v, p, hr, hg, hv, hp, h0, h1 => by
  obtain ⟨b1, b2, b3, b4, b5, b6, b7, b8, b9⟩ := hr
  obtain rfl := hv.uniq b3
  rw [List.length_cons] at h1
  obtain ⟨w, w1, _⟩ := AsR.head b9
  obtain ⟨n, till', ar', c1, c2, c3, c4⟩ := assign_as he hq hae har F l o.till 2 (ne + 1) v.from' w (Zs o.till o 0 1 (ne + 1) v.from') b9 (.inr rfl) w1 (peek_new w1) (by omega) (by omega)
  have htv : targetB (leafN 1 v) = true := by
   show plainN (leafN 1 v) = true
   unfold plainN
   rw [if_pos (show (leafN 1 v).kind = 1 from rfl), show (leafN 1 v).text = ⟨#[97]⟩ from b2]
   decide
  have h3 := assigned_yes (i := v.till) (leaf_k v) htv (show ndSize (leafN 1 v) ≤ _ by show 1 ≤ _; decide) b8 c1
  have h4 := assign_any (nameT_ne (b1.ne (by decide))) (nameT_ne b1.asy) hp b4 b6 h0 (by omega) (cond_z (binary_nm (F + 2 * l.length + 7) b1 hg (peek_self hg b1.sl (by decide)) b4 b5) (leaf_k v) b7) h3
  refine ⟨.mk 30 o.text [leafN 1 v, n] (leafN 1 v).from' till', till', ar', ?_, ?_, ?_, ?_⟩
  ·rw [List.length_cons, show F + 2 * (l.length + 1) + 14 = F + 2 * l.length + 15 + 1 by omega]
   exact h4
  ·have ho : o.text ≠ ⟨#[63]⟩ := by
    intro h
    unfold assigningT at b8
    rw [h, show oneOf (⟨#[63]⟩ : ByteArray) _ = false from by decide, Bool.and_false] at b8
    cases b8
   rw [bare_kids (by decide), bareNds, bareNds, bareNds, bare_id, b2, c2, List.map_cons, asN, if_neg ho]
  ·rw [noProp, noProps, noProps, noProps, c3]; rfl
  ·rw [ndSize, ndSizes, ndSizes, ndSizes, show ndSize (leafN 1 v) = 1 from rfl, List.length_cons]; omega
 | (a, o, some (t, d)) :: l, i, g, ne, ar, v, p, hr, hg, hv, hp, h0, h1 => by
  obtain ⟨b1, b2, b3, b4, b5, b6, b7, t1, t2, t3, t4, t5, t6, b9⟩ := hr
  obtain rfl := hv.uniq b3
  rw [List.length_cons] at h1
  obtain ⟨w, w1, _⟩ := AsR.head b9
  obtain ⟨n, till', ar', c1, c2, c3, c4⟩ := assign_as he hq hae har F l d.till 2 (ne + 1) t.from' w (Zs d.till d 0 1 (ne + 1) t.from') b9 (.inr rfl) w1 (peek_new w1) (by omega) (by omega)
  obtain ⟨k1, k2, k3⟩ := colon_no t6
  have h2 : runQ s m (F + 2 * l.length + 13) .assign (Zs o.till o 0 1 (ne + 1) v.from') = .ok (leafN 1 t) (Zs t.till d 1 1 (ne + 1) t.from') := assign_nm (F + 2 * l.length + 4) t1 (.inr rfl) (peek_new t3) t4 t5 k1 k2 k3 (by omega) (by omega)
  have h3 := cond_yes (binary_nm (i := i) (F + 2 * l.length + 7) b1 hg (peek_self hg b1.sl (by decide)) b4 b5) (leaf_k v) b7 h2 t6 c1
  have h4 := assign_any (nameT_ne (b1.ne (by decide))) (nameT_ne b1.asy) hp b4 b6 h0 (by omega) h3 (assigned_z (show (31 : Int) ≠ 22 by decide) hae)
  refine ⟨.mk 31 ⟨#[]⟩ [leafN 1 v, leafN 1 t, n] (leafN 1 v).from' till', till', ar', ?_, ?_, ?_, ?_⟩
  ·rw [List.length_cons, show F + 2 * (l.length + 1) + 14 = F + 2 * l.length + 15 + 1 by omega]
   exact h4
  ·have ho : o.text = ⟨#[63]⟩ := by
    unfold punctT at b7
    rw [Bool.and_eq_true, decide_eq_true_eq, decide_eq_true_eq] at b7
    exact b7.2
   rw [bare_kids (by decide), bareNds, bareNds, bareNds, bareNds, bare_id, bare_id, b2, t2, c2, List.map_cons, asN, if_pos ho]
  ·rw [noProp, noProps, noProps, noProps, noProps, c3]; rfl
  ·rw [ndSize, ndSizes, ndSizes, ndSizes, ndSizes, show ndSize (leafN 1 v) = 1 from rfl, show ndSize (leafN 1 t) = 1 from rfl, List.length_cons]; omega
end
theorem expr_as {s : ByteArray} (F : Nat) (l : List (Tk × Tk × Option (Tk × Tk))) (hr : AsR s (endT s.size) 0 l) (hl : l.length ≤ 30) :
  ∃ n q, exprQ s false (F + 2 * l.length + 15) = .ok n q ∧ bareNd n = asN (l.map (·.2.1.text)) ∧ ndSize n ≤ 91 := by
 obtain ⟨v, v1, _⟩ := AsR.head hr
 obtain ⟨n, till', ar2, c1, c2, c3, c4⟩ := assign_as (m := false) (end_stp s.size) rfl rfl rfl F l 0 2 0 (-1) v (Zs 0 Tk.zero 0 1 0 (-1)) hr (.inr rfl) v1 (peek_new v1) (by decide) (by omega)
 exact ⟨n, _, expr_z (m := false) (expression_z c1 rfl) rfl c3 (by omega), c2, by omega⟩
end
section
open Go.RowKit
def asRow : List (List UInt8) := [[61], [43, 61], [45, 61], [42, 61], [47, 61], [37, 61], [42, 42, 61], [60, 60, 61], [62, 62, 61], [62, 62, 62, 61], [38, 61], [124, 61], [94, 61], [38, 38, 61], [124, 124, 61], [63, 63, 61], [63]]
theorem as_plain : ∀ o ∈ asRow, ∀ l, plainT 1 (o ++ 32 :: l) = .fine 5 o.length := by
 intro o ho l
 simp only [asRow, List.mem_cons, List.not_mem_nil, or_false] at ho
 rcases ho with rfl | rfl | rfl | rfl | rfl | rfl | rfl | rfl | rfl | rfl | rfl | rfl | rfl | rfl | rfl | rfl | rfl <;> exact plain_mark (by decide) rfl (by decide)
theorem as_ink : ∀ o ∈ asRow, ∀ l, Ink (o ++ 32 :: l) := by
 intro o ho l
 by_cases h : o = [47, 61]
 ·subst h
  refine ⟨rfl, fun p hp => ?_⟩
  unfold cmKind
  rw [if_neg (by simp [Lib.hasPrefix]), if_neg (by simp [Lib.hasPrefix]), if_neg (by simp [Lib.hasPrefix])]
 ·simp only [asRow, List.mem_cons, List.not_mem_nil, or_false] at ho
  rcases ho with rfl | rfl | rfl | rfl | rfl | rfl | rfl | rfl | rfl | rfl | rfl | rfl | rfl | rfl | rfl | rfl | rfl <;>
   first
   | exact absurd rfl h
   | exact ink_of (by decide) (by decide) (by decide) (by decide)
structure AsT (o : Tk) : Prop where
 stp : Stp o
 arr : punctT o ⟨#[61, 62]⟩ = false
theorem as_tok0 : ∀ o ∈ asRow, AsT ⟨5, ⟨o.toArray⟩, 0, 0, false⟩ := by
 intro o ho
 simp only [asRow, List.mem_cons, List.not_mem_nil, or_false] at ho
 rcases ho with rfl | rfl | rfl | rfl | rfl | rfl | rfl | rfl | rfl | rfl | rfl | rfl | rfl | rfl | rfl | rfl | rfl <;>
  exact ⟨⟨.inr (by decide), ⟨by decide, by decide, by decide, by decide, by decide, by decide, by decide, by decide⟩⟩, by decide⟩
theorem as_tok (o : List UInt8) (ho : o ∈ asRow) (a b : Int) : AsT ⟨5, ⟨o.toArray⟩, a, b, false⟩ :=
 have h := as_tok0 o ho
 ⟨⟨h.stp.op, ⟨h.stp.e.dot, h.stp.e.brk, h.stp.e.par, h.stp.e.opt, h.stp.e.k7, h.stp.e.k8, h.stp.e.inc, h.stp.e.dec⟩⟩, h.arr⟩
theorem as_one0 : ∀ o ∈ asRow, o ≠ [63] → punctT ⟨5, ⟨o.toArray⟩, 0, 0, false⟩ ⟨#[63]⟩ = false ∧ assigningT ⟨5, ⟨o.toArray⟩, 0, 0, false⟩ = true := by
 intro o ho h1
 simp only [asRow, List.mem_cons, List.not_mem_nil, or_false] at ho
 rcases ho with rfl | rfl | rfl | rfl | rfl | rfl | rfl | rfl | rfl | rfl | rfl | rfl | rfl | rfl | rfl | rfl | rfl <;> first | exact absurd rfl h1 | exact ⟨by decide, by decide⟩
def asX : List (List UInt8) → List UInt8
 | [] => [118]
 | o :: l => if o = [63] then 99 :: 32 :: 63 :: 32 :: 116 :: 32 :: 58 :: 32 :: asX l else 97 :: 32 :: (o ++ 32 :: asX l)
theorem as_sees {s : ByteArray} : ∀ (os : List (List UInt8)) (p : Nat), (∀ o ∈ os, o ∈ asRow) → (s.data.toList.drop p = asX os ∨ s.data.toList.drop p = 32 :: asX os) → p ≤ s.size →
  ∃ ts : List (Tk × Tk × Option (Tk × Tk)), AsR s (endT s.size) p ts ∧ ts.map (·.2.1.text) = os.map (fun o => ⟨o.toArray⟩) ∧ ts.length = os.length
 | [], p, _, hd, hp => by
  obtain ⟨q, v, q1, q2, q3, q4, q5, q6⟩ := sees_nm (l := []) (by decide) nm_v hd hp (by rfl) (by decide)
  have e : q = s.size := by
   have h := congrArg List.length q2
   rw [List.length_drop, List.length_nil] at h
   have h2 : s.data.toList.length = s.size := Array.length_toList
   omega
  refine ⟨[], ⟨v, q4, q5, q6 2 (.inr rfl), q6 1 (.inl rfl), ?_⟩, rfl, rfl⟩
  rw [q3, e]
  exact sees_end (.inl rfl) (by rw [← e]; exact q2) (Nat.le_refl _)
 | o :: os, p, ho, hd, hp => by
  have ho1 := ho o (.head _)
  have IH := fun q => as_sees (s := s) os q (fun x hx => ho x (.tail _ hx))
  rw [asX] at hd
  by_cases h63 : o = [63]
  ·rw [if_pos h63] at hd
   obtain ⟨q, a, q1, q2, q3, q4, q5, q6⟩ := sees_nm (by decide) nm_c hd hp (goes_32 _) (nx_32 _)
   have w1 := sees_32 (g := 1) (.inl rfl) (a := [63]) (kind := 5) q2 (as_ink [63] (by decide) _) (as_plain [63] (by decide) _)
   have d1 := tx_app (a := [63]) (tx_next q2)
   have f1 := tx_fits (a := [63]) (tx_next q2) (tx_lt q2)
   obtain ⟨r, t, r1, r2, r3, r4, r5, r6⟩ := sees_nm (by decide) nm_t (.inr d1) f1 (goes_32 _) (nx_32 _)
   have w2 := sees_32 (g := 1) (.inl rfl) (a := [58]) (l := 32 :: asX os) (kind := 5) r2 ⟨(ink0_of (by decide) (by decide) (by decide) (by decide)).1, fun p _ => (ink0_of (by decide) (by decide) (by decide) (by decide)).2 p⟩ (plain_mark (by decide) rfl (by decide))
   have d2 := tx_app (a := [58]) (tx_next r2)
   have f2 := tx_fits (a := [58]) (tx_next r2) (tx_lt r2)
   obtain ⟨ts, t1, t2, t3⟩ := IH _ (.inr d2) f2
   have hT := as_tok [63] (by decide) ((q + 1 : Nat) : Int) ((q + 1 + [63].length : Nat) : Int)
   rw [← q3] at w1
   rw [← r3] at w2
   refine ⟨(a, _, some (t, _)) :: ts, ⟨q4, q5, q6 2 (.inr rfl), w1, hT.stp, hT.arr, rfl, r4, r5, r6 2 (.inr rfl), w2, ⟨.inr rfl, ⟨rfl, rfl, rfl, rfl, (show ¬ (5 : Int) = 7 by decide), (show ¬ (5 : Int) = 8 by decide), rfl, rfl⟩⟩, rfl, t1⟩, by rw [List.map_cons, List.map_cons, t2, h63], by rw [List.length_cons, List.length_cons, t3]⟩
  ·rw [if_neg h63] at hd
   obtain ⟨q, a, q1, q2, q3, q4, q5, q6⟩ := sees_nm (by decide) nm_a hd hp (goes_32 _) (nx_32 _)
   have w1 := sees_32 (g := 1) (.inl rfl) (kind := 5) q2 (as_ink o ho1 _) (as_plain o ho1 _)
   have d1 := tx_app (tx_next q2)
   have f1 := tx_fits (tx_next q2) (tx_lt q2)
   obtain ⟨ts, t1, t2, t3⟩ := IH _ (.inr d1) f1
   have hT := as_tok o ho1 ((q + 1 : Nat) : Int) ((q + 1 + o.length : Nat) : Int)
   have hO := as_one0 o ho1 h63
   rw [← q3] at w1
   exact ⟨(a, _, none) :: ts, ⟨q4, q5, q6 2 (.inr rfl), w1, hT.stp, hT.arr, hO.1, hO.2, t1⟩, by rw [List.map_cons, List.map_cons, t2], by rw [List.length_cons, List.length_cons, t3]⟩
theorem assigns_is {s : ByteArray} (os : List (List UInt8)) (ho : ∀ o ∈ os, o ∈ asRow) (hl : os.length ≤ 30) (hs : s.data.toList = asX os) : ∃ n q, exprQ s false (0 + 2 * os.length + 15) = .ok n q ∧ bareNd n = asN (os.map fun o => ⟨o.toArray⟩) ∧ ndSize n ≤ 91 := by
 obtain ⟨ts, t1, t2, t3⟩ := as_sees (s := s) os 0 ho (.inl hs) (Nat.zero_le _)
 have h := expr_as 0 ts t1 (by omega)
 rw [t2, t3] at h
 exact h
end
section
open Go.RowKit
theorem asX_len : ∀ os : List (List UInt8), (∀ o ∈ os, o ∈ asRow) → (asX os).length ≤ 8 * os.length + 1
 | [], _ => Nat.le_refl _
 | o :: os, h => by
  have h1 := asX_len os fun x hx => h x (.tail _ hx)
  have h2 : ∀ x ∈ asRow, x.length ≤ 4 := by decide
  have h3 := h2 o (h o (.head _))
  rw [asX]
  split
  ·simp only [List.length_cons]; omega
  ·simp only [List.length_cons, List.length_append]; omega
theorem as_mem {o : List UInt8} {os : List (List UInt8)} (h : o ∈ asRow) (k : ∀ x ∈ os, x ∈ asRow) : ∀ x ∈ o :: os, x ∈ asRow := by
 intro x hx
 rcases List.mem_cons.1 hx with rfl | hx
 ·exact h
 ·exact k x hx
def AsRel (w : World) (g r len : Nat) (s i : Value) (wr : World) : Prop := ∃ (j : Nat) (os : List (List UInt8)) (S : ByteArray), j ≤ len ∧ j ≤ 30 ∧ os.length = j ∧ i = .int .i64 j ∧ s = .string S ∧ S.data.toList = asX os ∧ (∀ o ∈ os, o ∈ asRow) ∧ WSt w r (asN (baO os)) wr ∧ StrS g asRow wr
theorem asN_q {o : List UInt8} {os : List (List UInt8)} (h : o = [63]) : asN (baO (o :: os)) = .mk 31 ⟨#[]⟩ [.mk 1 ⟨#[99]⟩ [] 0 0, .mk 1 ⟨#[116]⟩ [] 0 0, asN (baO os)] 0 0 := by
 subst h
 show asN (⟨#[63]⟩ :: baO os) = _
 rw [asN, if_pos rfl]
theorem asN_o {o : List UInt8} {t : ByteArray} {os : List (List UInt8)} (ht : (⟨o.toArray⟩ : ByteArray) = t) (h : o ≠ [63]) : asN (baO (o :: os)) = .mk 30 t [.mk 1 ⟨#[97]⟩ [] 0 0, asN (baO os)] 0 0 := by
 show asN (⟨o.toArray⟩ :: baO os) = _
 rw [asN, if_neg (fun e => h (by have := congrArg (fun b : ByteArray => b.data.toList) e; simpa using this)), ht]
theorem as_txt_q {o : List UInt8} {os : List (List UInt8)} {S X : ByteArray} (h : o = [63]) (hS : S.data.toList = asX os) (hX : X.data.toList = [99, 32, 63, 32, 116, 32, 58, 32] ++ S.data.toList) : X.data.toList = asX (o :: os) := by
 rw [asX, if_pos h, hX, hS]
 rfl
theorem as_txt_o {o : List UInt8} {os : List (List UInt8)} {S X : ByteArray} (h : o ≠ [63]) (hS : S.data.toList = asX os) (hX : X.data.toList = 97 :: 32 :: (o ++ 32 :: S.data.toList)) : X.data.toList = asX (o :: os) := by
 rw [asX, if_neg h, hX, hS]
theorem front_ok {w : World} {r : Nat} {n : Nd} {b : Option Addr} {c : Nat} {t : ByteArray} (h : WBox w r n b c) : ∀ y ∈ ([(.mk 1 t [] 0 0, none, 0), (n, b, c)] : List Kd), y.1.kids.length ≤ y.2.2 ∧ RowA w r w.heap.size y.1.kids y.2.1 := by
 intro y hy
 simp only [List.mem_cons, List.not_mem_nil, or_false] at hy
 rcases hy with rfl | rfl
 ·exact ⟨Nat.le_refl _, RowA.nil _ _ _ _⟩
 ·exact ⟨h.cap, h.row⟩
theorem three_ok {w : World} {r : Nat} {n : Nd} {b : Option Addr} {c : Nat} {t u : ByteArray} (h : WBox w r n b c) : ∀ y ∈ ([(.mk 1 t [] 0 0, none, 0), (.mk 1 u [] 0 0, none, 0), (n, b, c)] : List Kd), y.1.kids.length ≤ y.2.2 ∧ RowA w r w.heap.size y.1.kids y.2.1 := by
 intro y hy
 simp only [List.mem_cons, List.not_mem_nil, or_false] at hy
 rcases hy with rfl | rfl | rfl
 ·exact ⟨Nat.le_refl _, RowA.nil _ _ _ _⟩
 ·exact ⟨Nat.le_refl _, RowA.nil _ _ _ _⟩
 ·exact ⟨h.cap, h.row⟩
set_option maxRecDepth 100000 in
set_option maxHeartbeats 16000000 in
theorem assigns_any (ao : Option Addr) (len cap : Nat) (w : World) (hc : IntsArg w ao len) (hl : len ≤ 33554432) (hx : Lx w) :
  Calls Tryz.prog 4 #[.slice ao len cap] w fun e w' => e = .returned (.bool true) ∧ Below w.heap.size w w' := by
 have HC := Lib.hid hc
 have HX := Lib.hid hx
 clear hc hx
 go_enter Tryz.func4, Tryz.ntmps4
 go_wp2_with fail
 refine (awake_any w HX.out).mono ?_
 rintro e w1 ⟨rfl, hb1⟩
 go_upto_region 4 with fail
 have hr1 : StrS w1.heap.size asRow (w1.alloc (.cells #[.string ⟨#[61]⟩, .string ⟨#[43, 61]⟩, .string ⟨#[45, 61]⟩, .string ⟨#[42, 61]⟩, .string ⟨#[47, 61]⟩, .string ⟨#[37, 61]⟩, .string ⟨#[42, 42, 61]⟩, .string ⟨#[60, 60, 61]⟩, .string ⟨#[62, 62, 61]⟩, .string ⟨#[62, 62, 62, 61]⟩, .string ⟨#[38, 61]⟩, .string ⟨#[124, 61]⟩, .string ⟨#[94, 61]⟩, .string ⟨#[38, 38, 61]⟩, .string ⟨#[124, 124, 61]⟩, .string ⟨#[63, 63, 61]⟩, .string ⟨#[63]⟩] 9)) := StrS.new w1 asRow 9
 have hb2 : Below w.heap.size w (w1.alloc (.cells #[.string ⟨#[61]⟩, .string ⟨#[43, 61]⟩, .string ⟨#[45, 61]⟩, .string ⟨#[42, 61]⟩, .string ⟨#[47, 61]⟩, .string ⟨#[37, 61]⟩, .string ⟨#[42, 42, 61]⟩, .string ⟨#[60, 60, 61]⟩, .string ⟨#[62, 62, 61]⟩, .string ⟨#[62, 62, 62, 61]⟩, .string ⟨#[38, 61]⟩, .string ⟨#[124, 61]⟩, .string ⟨#[94, 61]⟩, .string ⟨#[38, 38, 61]⟩, .string ⟨#[124, 124, 61]⟩, .string ⟨#[63, 63, 61]⟩, .string ⟨#[63]⟩] 9)) := hb1.alloc hb1.size _
 generalize World.alloc w1 _ = w2 at *
 generalize w1.heap.size = g at *
 clear hb1
 go_wp2_with fail
 refine (ident_any _ _).mono ?_
 rintro e w4 ⟨rfl, hb4⟩
 have hr4 := hr1.bel hb4
 have hb5 := bel_next hb2 hb4
 have hgr : g < w4.heap.size := hr4.1
 clear hr1 hb2 hb4
 go_upto_region 6 with fail
 have hs : WSt w w4.heap.size (asN (baO [])) (w4.alloc (.cells #[.int .i64 1, .string ⟨#[118]⟩, .slice none 0 0, .int .i64 0, .int .i64 0] 31)) := WSt.leaf hb5 ⟨#[118]⟩
 have HS := Lib.hid hs
 have HR := Lib.hid (hr4.bel (alloc_bel w4 (.cells #[.int .i64 1, .string ⟨#[118]⟩, .slice none 0 0, .int .i64 0, .int .i64 0] 31)))
 generalize World.alloc w4 _ = w5 at *
 generalize w4.heap.size = r at *
 clear hr4 hb5 hs
 go_wp2_with fail
 go_loopw [4, 6, 7] (fun s i _ wr => AsRel w g r len s i wr) (fun _ i _ _ => 30 - (intOf i).toNat)
 case atStart => exact ⟨0, [], ⟨#[118]⟩, Nat.zero_le _, Nat.zero_le _, rfl, rfl, rfl, rfl, (fun _ h => by cases h), HS.out, HR.out⟩
 case round =>
  clear HS HR
  obtain ⟨j, os, S, hj, hj30, hoj, rfl, rfl, hS, hok, hst, hrow⟩ := hrel
  have hSs : S.size ≤ 300 := by rw [ba_size hS]; have := asX_len os hok; omega
  have HST := Lib.hid hst
  have HRW := Lib.hid hrow
  have HS := Lib.hid hS
  have HOK := Lib.hid hok
  obtain ⟨wb, wc, hbx⟩ := hst.ex
  have HB := Lib.hid hbx
  have hrl := hbx.box.lt
  by_cases hlt : j < len ∧ j < 30
  ·obtain ⟨hlt, hlt30⟩ := hlt
   obtain ⟨b, off, rfl, hb, z, hz⟩ := HC.out j hlt
   rw [← hst.bel.cell (p := ⟨b, off + j, none⟩) hb] at hz
   obtain ⟨a, ha, ha2⟩ := pickN z 17 (by decide)
   replace ha : (IntKind.u64.wrap z).tmod 17 = (a : Int) := ha
   obtain ⟨x, hx⟩ : ∃ x, asRow[a]'ha2 = x := ⟨_, rfl⟩
   have hxm : x ∈ asRow := hx ▸ List.getElem_mem _
   have cx := hrow.2 a ha2
   have hxl : x.length ≤ 4 := (show ∀ x ∈ asRow, x.length ≤ 4 by decide) x hxm
   rw [hx] at cx
   obtain ⟨t, ht⟩ : ∃ t : ByteArray, (⟨x.toArray⟩ : ByteArray) = t := ⟨_, rfl⟩
   rw [ht] at cx
   have htl : t.data.toList = x := by rw [← ht]
   have hts : t.size ≤ 4 := by rw [ba_size htl]; exact hxl
   have HTL := Lib.hid htl
   have HT := Lib.hid ht
   have HXM := Lib.hid hxm
   have la : IntKind.i64.wrap (a : Int) = a := by rw [IntKind.wrap_i64]; omega
   have na : (0 : Int) ≤ (a : Int) := by omega
   have ma : (a : Int) < 17 := by omega
   obtain ⟨n, hn⟩ : ∃ n, asN (baO os) = n := ⟨_, rfl⟩
   rw [hn] at HST HB
   have HN := Lib.hid hn
   have hlo := hst.lo
   clear hst hrow hS hok hx hxm htl hxl hbx hn
   by_cases h63 : t = ⟨#[63]⟩
   ·have HQ := Lib.hid (show x = [63] by have h := HTL.out; rw [h63] at h; exact h.symm)
    subst h63
    go_upto_region 12 with fail
    have HD := Lib.hid (HST.out.next (Below.drew (Below.refl _ _)))
    have HBD := Lib.hid (HB.out.bel (Below.drew (Below.refl _ _)))
    replace HRW := Lib.hid (HRW.out.bel (Below.drew (Below.refl _ _)))
    obtain ⟨x0, x1, x2, x3, x4, y0, y1, y2, y3, y4⟩ := NdBoxV.facts HBD.out.box
    clear HB HST cx hz
    go_region_with (go_at_call 13; refine (ident_any _ _).mono ?_; rintro e w9 ⟨rfl, hb9⟩; replace HRW := Lib.hid (HRW.out.bel hb9); replace HD := Lib.hid (HD.out.next hb9); replace HBD := Lib.hid (HBD.out.bel hb9); have hrl9 := HBD.out.box.lt; clear hb9 x0 x1 x2 x3 x4 y0 y1 y2 y3 y4; obtain ⟨x0, x1, x2, x3, x4, y0, y1, y2, y3, y4⟩ := NdBoxV.facts HBD.out.box)
    all_goals
     go_wp2_with fail
     go_roundw
     case rel => exact ⟨j + 1, x :: os, _, hlt, by omega, by rw [List.length_cons, hoj], by go_num, rfl, as_txt_q HQ.out HS.out (by simp [ByteArray.data_append]), as_mem HXM.out HOK.out, by rw [asN_q HQ.out, HN.out]; exact HD.out.over2 HBD.out (ns := [(.mk 1 ⟨#[99]⟩ [] 0 0, none, 0), (.mk 1 ⟨#[116]⟩ [] 0 0, none, 0), (n, wb, wc)]) (three_ok HBD.out) 31 ⟨#[]⟩ rfl, (HRW.out.lay (Nat.ne_of_lt hgr) _ _ _ _ _).bel (alloc_bel _ _)⟩
     case measure => simp [intOf]; omega
   ·have HQ := Lib.hid (show x ≠ [63] from fun h => h63 (by rw [← ht, h]))
    have hw : (t.toList == [63]) = false := xf h63
    clear h63 ht
    go_upto_region 14 with fail
    have HD := Lib.hid (HST.out.next (Below.drew (Below.refl _ _)))
    have HBD := Lib.hid (HB.out.bel (Below.drew (Below.refl _ _)))
    replace HRW := Lib.hid (HRW.out.bel (Below.drew (Below.refl _ _)))
    obtain ⟨x0, x1, x2, x3, x4, y0, y1, y2, y3, y4⟩ := NdBoxV.facts HBD.out.box
    clear HB HST cx hz
    go_region_with (go_at_call 13; refine (ident_any _ _).mono ?_; rintro e w9 ⟨rfl, hb9⟩; replace HRW := Lib.hid (HRW.out.bel hb9); replace HD := Lib.hid (HD.out.next hb9); replace HBD := Lib.hid (HBD.out.bel hb9); have hrl9 := HBD.out.box.lt; clear hb9 x0 x1 x2 x3 x4 y0 y1 y2 y3 y4; obtain ⟨x0, x1, x2, x3, x4, y0, y1, y2, y3, y4⟩ := NdBoxV.facts HBD.out.box)
    all_goals
     go_wp2_with fail
     go_roundw
     case rel => exact ⟨j + 1, x :: os, _, hlt, by omega, by rw [List.length_cons, hoj], by go_num, rfl, as_txt_o HQ.out HS.out (by simp [ByteArray.data_append, HTL.out]), as_mem HXM.out HOK.out, by rw [asN_o HT.out HQ.out, HN.out]; exact HD.out.over2 HBD.out (ns := [(.mk 1 ⟨#[97]⟩ [] 0 0, none, 0), (n, wb, wc)]) (front_ok HBD.out) 30 t rfl, (HRW.out.lay (Nat.ne_of_lt hgr) _ _ _ _ _).bel (alloc_bel _ _)⟩
     case measure => simp [intOf]; omega
  ·have hend : j = len ∨ (j = 30 ∧ 30 < len) := by omega
   obtain ⟨n, q, hE, hz1, hz2⟩ := assigns_is os hok (by omega) hS
   have hbt := bareT_of (n := n) (by omega)
   have HI := Lib.hid (fun W hb => same_is (0 + 2 * os.length + 15) (by omega) (by omega) hE (by omega) (by rw [hbt]; exact Nat.le_trans (bare_size n) (by omega)) (asN (baO os)) _ 0 wr.heap.size W (NdV_bel hbx.v hb) hb.size (HX.out.bel (bel_next hst.bel hb)))
   obtain ⟨x0, x1, x2, x3, x4, y0, y1, y2, y3, y4⟩ := NdBoxV.facts hbx.box
   have hTrue : sameNd (bareT n) (asN (baO os)) = true := by rw [hbt, hz1]; exact sameNd_refl _
   rw [hTrue] at HI
   clear hst hrow hS hok hbx hE hz1 hz2 hbt hTrue HC
   rcases hend with rfl | ⟨rfl, hl30⟩
   all_goals
    go_wp2_with fail
    refine (HI.out _ (Below.refl _ _)).mono ?_
    rintro e w6 ⟨rfl, hb6⟩
    go_wp2_with fail
    go_ret
    exact ⟨rfl, bel_next HST.out.bel hb6⟩
end
section
theorem upto_mem {H : Type} {d : DataW H} {l : List (DataW H)} (hk : Rows.uptoSmall H l = true) (h : d ∈ l) : Rows.uptoBulk d ≤ 1048576 := by
 have hk' : Rows.uptoBulkAll l ≤ 1048576 := by simpa [Rows.uptoSmall] using hk
 refine Nat.le_trans ?_ hk'
 clear hk hk'
 induction l with
 | nil => cases h
 | cons x r ih =>
  simp only [Rows.uptoBulkAll]
  rcases List.mem_cons.1 h with e | e
  ·subst e; omega
  ·have := ih e; omega
end
end Go.Proofs.YtfnjjgmhjbhclaaGreatDoor
