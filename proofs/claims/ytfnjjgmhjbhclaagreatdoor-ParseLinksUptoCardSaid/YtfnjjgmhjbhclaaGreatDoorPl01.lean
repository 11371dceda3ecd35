/- Parts: Trees in plain Lean: what package ast computes of them; and how they lie in memory. | The contract of the reference's Decimal below 100. | Plain: how package parse's reading goes over tokens that have no comments ahead: states, looking, taking. No condition. | Plain: names with operators between are read as the tree that is cut at the loosest one. No condition. | Plain: the tokens of a text of names, marks and blanks, as the parser sees them. No condition. | Plain: a text of names with operators between, as the parser sees its tokens. No condition. | Plain: what Expr reads of a text of names with operators between. No condition. | Contract of the law's split. Conditions: at most 90 names; the operators' row lies in memory. | ParseOperators' function answers true. Conditions: the argument's cells hold ints; what a law leans on. | Plain: what Expr reads of signs ahead of a member. No condition. | Plain: tokens that stand at a place, behind a blank or not. No condition. | Plain: the text of signs ahead of a.b, as the parser sees its tokens; what Expr reads of it. No condition. | ParseSigns' function answers true: signs go from the inside out. Conditions: the argument's cells hold ints; what a law leans on. | Plain: what Expr reads of assignments and conditions in a row. No condition. | Plain: what Expr reads of links behind a name. No condition. | Plain: the text of assignments and conditions, as the parser sees its tokens; what Expr reads of it. No condition. | Plain: the text of a name with links behind it, as the parser sees its tokens; what Expr reads of it. No condition. | ParseLinks' function answers true: members, calls and indexes are read from the left. Conditions: the argument's cells hold ints; what a law leans on. | What the bound on what a law reads gives. No condition. -/
import Derived.Test.YtfnjjgmhjbhclaaGreatDoorPn01
import Derived.Test.YtfnjjgmhjbhclaaGreatDoorPn02
import Derived.Test.YtfnjjgmhjbhclaaGreatDoorPn03
import Derived.Test.YtfnjjgmhjbhclaaGreatDoorPn04
import Derived.Test.YtfnjjgmhjbhclaaGreatDoorPn05
import Derived.Test.YtfnjjgmhjbhclaaGreatDoorPn06
import Derived.Test.YtfnjjgmhjbhclaaGreatDoorPn07
import Derived.Test.YtfnjjgmhjbhclaaGreatDoorPn08
import Derived.Test.YtfnjjgmhjbhclaaGreatDoorPn09
import Derived.Test.YtfnjjgmhjbhclaaGreatDoorPn10
import Derived.Test.YtfnjjgmhjbhclaaGreatDoorPn11
import Derived.Test.YtfnjjgmhjbhclaaGreatDoorPn12
import Derived.Test.YtfnjjgmhjbhclaaGreatDoorPn13
import Derived.Test.YtfnjjgmhjbhclaaGreatDoorPn14
import Derived.Test.YtfnjjgmhjbhclaaGreatDoorPn15
import Derived.Test.YtfnjjgmhjbhclaaGreatDoorPn16
import Derived.Test.YtfnjjgmhjbhclaaGreatDoorPn17
import Derived.Test.YtfnjjgmhjbhclaaGreatDoorPn18
import Derived.Test.YtfnjjgmhjbhclaaGreatDoorPn19
import Derived.Test.YtfnjjgmhjbhclaaGreatDoorPn20
import Derived.Test.YtfnjjgmhjbhclaaGreatDoorPn21
import Derived.Test.YtfnjjgmhjbhclaaGreatDoorPn22
import Derived.Test.YtfnjjgmhjbhclaaGreatDoorPn23
import Derived.Test.YtfnjjgmhjbhclaaGreatDoorPn24
import Derived.Test.YtfnjjgmhjbhclaaGreatDoorPn25
import Derived.Test.YtfnjjgmhjbhclaaGreatDoorPn26
import Derived.Test.YtfnjjgmhjbhclaaGreatDoorPn27
import Derived.Test.YtfnjjgmhjbhclaaGreatDoorPn29
import Derived.Test.YtfnjjgmhjbhclaaGreatDoorPn30
import Derived.Test.YtfnjjgmhjbhclaaGreatDoorPn32
import Derived.Laws.AppendOwnNone
import Derived.Test.YtfnjjgmhjbhclaaGreatDoorRows
namespace Go.Proofs.YtfnjjgmhjbhclaaGreatDoor
section
open Go.RowKit
theorem sameNd_refl (a : Nd) : sameNd a a = true := by
 induction a using Nd.ind with
 | h n ih => exact (sameNd_iff n n).2 ⟨rfl, rfl, rfl, fun i h _ => ih _ (List.getElem_mem h)⟩
end
section
open Go.RowKit
def dc2 (y : Nat) : List UInt8 := if y = 0 then [] else if y < 10 then [UInt8.ofNat (48 + y)] else [UInt8.ofNat (48 + y / 10), UInt8.ofNat (48 + y % 10)]
def dcl (i : Nat) : List UInt8 := if i = 0 then [48] else dc2 i
theorem dcl_row : ∀ i : Fin 100, (dcl i.val).length ≤ 2 ∧ dcl i.val ≠ [] ∧ ∀ c ∈ dcl i.val, 48 ≤ c.toNat ∧ c.toNat ≤ 57 := by decide +kernel
end
section
open Go.RowKit
def Zs (i : Int) (t : Tk) (g fl ne ar : Int) : Ps := ⟨i, t, [], g, [], fl, ne, ar, []⟩
section
variable {s : ByteArray} {g g' i fl ne ar : Int} {t tk : Tk}
theorem peek_new (h : Sees s g i t) : peekP s g (Zs i tk 0 fl ne ar) = .ok t (Zs i t g fl ne ar) := by
 obtain ⟨h0, h1, q, n, h2, h3⟩ := h
 unfold peekP cachedB Zs
 rw [if_neg (by simp)]
 unfold freshP
 simp only
 rw [if_neg (by omega), h2]
 simp only
 rw [h3]
theorem peek_old (hg : g ≠ 0) : peekP s g (Zs i t g fl ne ar) = .ok t (Zs i t g fl ne ar) := by
 unfold peekP cachedB Zs
 rw [if_pos (by simp [hg])]
theorem peek_12 (h1 : g' ≠ 0) (h2 : g' ≤ 2) (h3 : g ≤ 2) (hs : slashT t = false) : peekP s g (Zs i t g' fl ne ar) = .ok t (Zs i t g' fl ne ar) := by
 unfold slashT at hs
 unfold peekP cachedB Zs
 rw [if_pos (by simp [h1, h2, h3, hs])]
theorem take_z : takeP (Zs i t g fl ne ar) = .ok t (Zs t.till t 0 fl ne ar) := rfl
theorem look_z (h : Sees s 1 i t) (p : Ps) : lookP s i p = .ok t p := by
 obtain ⟨h0, h1, q, n, h2, h3⟩ := h
 unfold lookP lookT
 rw [if_neg (by omega), h2]
 simp only
 rw [h3]
 rfl
theorem is_no {x : ByteArray} (hp : peekP s 1 (Zs i tk g' fl ne ar) = .ok t (Zs i t g fl ne ar)) (h : punctT t x = false) : isP s x (Zs i tk g' fl ne ar) = .ok false (Zs i t g fl ne ar) := by
 unfold isP
 rw [PM.go hp, if_neg (by rw [h]; decide)]
 rfl
theorem want_yes {x : ByteArray} (hp : peekP s 1 (Zs i tk g' fl ne ar) = .ok t (Zs i t g fl ne ar)) (h : punctT t x = true) : wantP s x (Zs i tk g' fl ne ar) = .ok t (Zs t.till t 0 fl ne ar) := by
 unfold wantP
 rw [PM.go hp, if_pos h]
 rfl
end
theorem nameT_ne {t : Tk} {x : ByteArray} (h : t.text ≠ x) : nameT t x = false := by
 unfold nameT
 rw [decide_eq_false h, Bool.and_false]
section
variable {s : ByteArray} {m : Bool} {g i fl ne ar : Int} {t u tk : Tk}
theorem named_z (f : Nat) (h : Nm t) (hg : g = 1 ∨ g = 2) : runQ s m (f + 1) (.named t) (Zs i t g fl ne ar) = .ok (leafN 1 t) (Zs t.till t 0 fl ne ar) := by
 show namedS s m (runQ s m f) t _ = _
 have h1 : oneOf t.text [⟨#[116, 104, 105, 115]⟩, ⟨#[110, 117, 108, 108]⟩, ⟨#[116, 114, 117, 101]⟩, ⟨#[102, 97, 108, 115, 101]⟩] = false := by
  unfold oneOf
  rw [List.any_eq_false]
  intro x hx
  simp only [List.mem_cons, List.not_mem_nil, or_false] at hx
  rcases hx with rfl | rfl | rfl | rfl <;> (rw [decide_eq_false (h.ne (by decide))]; decide)
 unfold namedS
 rw [if_neg (by rw [h1]; decide), if_neg (h.ne (by decide)), if_neg (h.ne (by decide)), if_neg h.asy]
 unfold takeIdentP
 have hp : peekP s 1 (Zs i t g fl ne ar) = .ok t (Zs i t g fl ne ar) := peek_12 (by omega) (by omega) (by omega) h.sl
 rw [PM.go hp]
 show (if identB m fl t then _ else _ : PM Nd) _ = _
 rw [if_pos (h.ident m fl), PM.go take_z]
 rfl
theorem base_z (f : Nat) (h : Nm t) (hg : g = 1 ∨ g = 2) (calls : Bool) : runQ s m (f + 3) (.base t calls) (Zs i t g fl ne ar) = .ok (leafN 1 t) (Zs t.till t 0 fl ne ar) := by
 show baseS s m (runQ s m (f + 2)) t calls _ = _
 unfold baseS
 rw [if_neg (by rw [h.nameT (by decide)]; decide), if_neg (by rw [h.nameT (by decide)]; decide), if_neg (by rw [h.nameT (by decide)]; decide)]
 show primaryS (runQ s m (f + 1)) t _ = _
 have hk := h.kind
 unfold primaryS
 rw [if_neg (by omega), if_neg (by omega), if_neg (by omega), if_pos hk]
 exact named_z f h hg
theorem link_no (f : Nat) (n : Nd) (calls tmpl : Bool) (hu : Endy u) (hp : peekP s 1 (Zs i tk g fl ne ar) = .ok u (Zs i u 1 fl ne ar)) : runQ s m (f + 1) (.link n calls tmpl) (Zs i tk g fl ne ar) = .ok (n, false) (Zs i u 1 fl ne ar) := by
 show linkS s (runQ s m f) n calls tmpl _ = _
 unfold linkS
 rw [PM.go hp, if_neg (by rw [hu.dot]; decide), if_neg (by rw [hu.brk]; decide), if_neg (by rw [hu.par]; simp), if_neg (by have := hu.k7; have := hu.k8; omega)]
 rfl
theorem get_z (p : Ps) : getP p = .ok p p := rfl
theorem peek_self (hg : g = 1 ∨ g = 2) (hs : slashT t = false) {g2 : Int} (h2 : g2 ≤ 2) : peekP s g2 (Zs i t g fl ne ar) = .ok t (Zs i t g fl ne ar) := peek_12 (by omega) (by omega) h2 hs
theorem leaf_k (t : Tk) : ¬ (leafN 1 t).kind = 22 := by
 show ¬ (1 : Int) = 22
 decide
theorem left_z (f : Nat) {p : Ps} (h : Nm t) (hg : g = 1 ∨ g = 2) (hp : peekP s 2 p = .ok t (Zs i t g fl ne ar)) (hu : Endy u) (hs : Sees s 1 t.till u) :
  runQ s m (f + 4) .leftHand p = .ok (leafN 1 t) (Zs t.till u 1 fl ne ar) := by
 show leftHandS s (f + 3) (runQ s m (f + 3)) p = _
 unfold leftHandS
 rw [PM.go hp, PM.go (get_z _)]
 show (runQ s m (f + 3) (.base t true) >>= _) _ = _
 rw [PM.go (base_z f h hg true), if_neg (leaf_k t), if_neg (by rw [show decide ((leafN 1 t).text = ⟨#[97, 115, 121, 110, 99]⟩) = false from decide_eq_false h.asy]; simp)]
 unfold leftHandS.linkL
 rw [PM.go (peek_new hs), if_neg (by rw [hu.opt]; decide), PM.go (link_no (f + 2) (leafN 1 t) true true hu (peek_old (by decide))), if_neg (show ¬ ((false : Bool) = true) by decide)]
 rfl
theorem unary_z (f : Nat) {p : Ps} (h : Nm t) (hg : g = 1 ∨ g = 2) (hp : peekP s 2 p = .ok t (Zs i t g fl ne ar)) (hu : Endy u) (hs : Sees s 1 t.till u) :
  runQ s m (f + 5) .unary p = .ok (leafN 1 t) (Zs t.till u 1 fl ne ar) := by
 show unaryS s (runQ s m (f + 4)) p = _
 unfold unaryS
 rw [PM.go hp, if_neg (by rw [h.nameT (by decide), h.nameT (by decide), h.nameT (by decide), h.punctT, h.punctT, h.punctT, h.punctT]; decide), PM.go (get_z _), if_neg (by rw [nameT_ne h.aw]; simp), if_neg (by rw [h.punctT, h.punctT]; decide), PM.go (left_z f h hg (peek_self hg h.sl (by decide)) hu hs), if_neg (leaf_k t), PM.go (peek_old (by decide)), if_neg (by rw [hu.inc, hu.dec]; simp)]
 rfl
theorem operand_z (f : Nat) (least : Int) {p : Ps} (h : Nm t) (hg : g = 1 ∨ g = 2) (hp : peekP s 2 p = .ok t (Zs i t g fl ne ar)) (hu : Endy u) (hs : Sees s 1 t.till u) :
  runQ s m (f + 6) (.operand least) p = .ok (leafN 1 t) (Zs t.till u 1 fl ne ar) := by
 show operandS s (runQ s m (f + 5)) least p = _
 unfold operandS
 rw [PM.go hp, if_pos (by rw [h.kind]; decide)]
 exact unary_z f h hg (peek_self hg h.sl (by decide)) hu hs
end
end
section
open Go.RowKit
def cutL : Nat → ByteArray → Nat → List ByteArray → Nat
 | c, _, _, [] => c
 | c, b, i, o :: os => if levelB o < levelB b ∨ (levelB o = levelB b ∧ o ≠ ⟨#[42, 42]⟩) then cutL i o (i + 1) os else cutL c b (i + 1) os
def cutN : List ByteArray → Nat
 | [] => 0
 | o :: os => cutL 0 o 1 os
inductive Tree : ByteArray → List (ByteArray × ByteArray) → Nd → Prop
 | nil (v : ByteArray) : Tree v [] (.mk 1 v [] 0 0)
 | cut (v : ByteArray) (pre : List (ByteArray × ByteArray)) (o w : ByteArray) (mid : List (ByteArray × ByteArray)) (a b : Nd) : cutN ((pre ++ (o, w) :: mid).map (·.1)) = pre.length → Tree v pre a → Tree w mid b → Tree v (pre ++ (o, w) :: mid) (.mk 29 o [a, b] 0 0)
theorem Tree.uniq {v : ByteArray} {l : List (ByteArray × ByteArray)} {a : Nd} (h : Tree v l a) : ∀ {b : Nd}, Tree v l b → a = b := by
 induction h with
 | nil v =>
  intro b hb
  generalize hl : ([] : List (ByteArray × ByteArray)) = l at hb
  cases hb with
  | nil => rfl
  | cut => simp at hl
 | cut v pre o w mid a b hc _ _ iha ihb =>
  intro n hn
  generalize hl : pre ++ (o, w) :: mid = l at hn
  cases hn with
  | nil => simp at hl
  | cut _ pre2 o2 w2 mid2 a2 b2 hc2 h1 h2 =>
   rw [hl] at hc
   obtain ⟨e1, e2⟩ := List.append_inj hl (hc.symm.trans hc2)
   injection e2 with e2 e3
   injection e2 with e2 e4
   subst e1 e2 e3 e4
   rw [iha h1, ihb h2]
structure Stp (u : Tk) : Prop where
 op : (decide (u.kind ≠ 5) && !nameT u ⟨#[105, 110, 115, 116, 97, 110, 99, 101, 111, 102]⟩ && !nameT u ⟨#[105, 110]⟩) = true ∨ levelB u.text = 0
 e : Endy u
section
variable {s : ByteArray}
theorem bare_id (t : Tk) : bareNd (leafN 1 t) = .mk 1 t.text [] 0 0 := by
 unfold leafN
 rw [bareNd, if_neg (by decide), bareNds]
variable {m : Bool}
theorem operator_no {i ne ar : Int} {u : Tk} (h : Stp u) : ∃ r : Tk × Int, r.2 = 0 ∧ operatorP s (Zs i u 1 1 ne ar) = .ok r (Zs i u 1 1 ne ar) := by
 unfold operatorP
 rw [PM.go (peek_old (by decide)), PM.go (get_z _)]
 have h2 : hasF 1 1 = true := by decide
 show ∃ r : Tk × Int, r.2 = 0 ∧ (if (decide (u.kind ≠ 5) && !nameT u ⟨#[105, 110, 115, 116, 97, 110, 99, 101, 111, 102]⟩ && (!nameT u ⟨#[105, 110]⟩ || !hasF 1 1)) = true then _ else _ : PM (Tk × Int)) _ = _
 rw [h2, Bool.not_true, Bool.or_false]
 rcases h.op with h1 | h1
 ·rw [if_pos h1]
  exact ⟨_, rfl, rfl⟩
 ·split
  ·exact ⟨_, rfl, rfl⟩
  ·exact ⟨_, h1, rfl⟩
end
end
section
open Go.RowKit
section
variable {s : ByteArray} {p : Nat}
theorem tx_lt {c : UInt8} {l : List UInt8} (hd : s.data.toList.drop p = c :: l) : p < s.size := by
 have h := congrArg List.length hd
 rw [List.length_drop, List.length_cons] at h
 show p < s.data.size
 rw [← Array.length_toList]
 omega
theorem tx_next {c : UInt8} {l : List UInt8} (hd : s.data.toList.drop p = c :: l) : s.data.toList.drop (p + 1) = l := by
 rw [← List.drop_drop, hd]
 rfl
theorem tx_app {a l : List UInt8} (hd : s.data.toList.drop p = a ++ l) : s.data.toList.drop (p + a.length) = l := by
 rw [← List.drop_drop, hd, List.drop_left]
theorem tx_fits {a l : List UInt8} (hd : s.data.toList.drop p = a ++ l) (hp : p ≤ s.size) : p + a.length ≤ s.size := by
 have h := congrArg List.length hd
 rw [List.length_drop, List.length_append] at h
 have h2 : s.data.toList.length = s.size := Array.length_toList
 omega
theorem tx_piece {a l : List UInt8} (hd : s.data.toList.drop p = a ++ l) : s.extract p (p + a.length) = ⟨a.toArray⟩ := by
 apply ba_ext
 rw [ByteArray.data_extract, Array.toList_extract, List.extract_eq_take_drop, hd, Nat.add_sub_cancel_left, List.take_left]
theorem btw_32 {l : List UInt8} {line : Bool} (hd : s.data.toList.drop p = 32 :: l) : btw s p line = btw s (p + 1) line := by
 have hlt := tx_lt hd
 have h1 : isGap (32 :: l) = true := by
  unfold isGap
  rw [nx_ascii _ _ (by decide)]
  rfl
 rw [btw_step s p line (by omega), hd, if_pos h1, nx_ascii _ _ (by decide)]
 show btw s (p + 1) (line || endsR 32) = _
 rw [show endsR 32 = false from rfl, Bool.or_false]
def Ink (l : List UInt8) : Prop := isGap l = false ∧ ∀ p, 0 < p → cmKind p l = 0
theorem btw_ink {l : List UInt8} {line : Bool} (hd : s.data.toList.drop p = l) (hp : p ≤ s.size) (h : isGap l = false ∧ cmKind p l = 0) : btw s p line = .fine p line [] := by
 rw [btw_step s p line hp, hd, if_neg (by rw [h.1]; decide), if_pos h.2]
theorem nxt_12 {g : Int} (hg : g = 1 ∨ g = 2) {q : Nat} {line : Bool} {kind : Int} {n : Nat} (hb : btw s p false = .fine q line []) (ht : plainT g (s.data.toList.drop q) = .fine kind n) : nxt s p g = .fine kind q n line [] := by
 unfold nxt tokT
 rcases hg with rfl | rfl <;>
 ·rw [if_neg (by rintro (h | h | ⟨h, _⟩) <;> omega), if_neg (by decide), hb]
  simp only
  rw [if_neg (by decide), if_neg (by decide), if_neg (by decide), ht]
theorem sees_32 {g : Int} (hg : g = 1 ∨ g = 2) {a l : List UInt8} {kind : Int} (hd : s.data.toList.drop p = 32 :: (a ++ l)) (hi : Ink (a ++ l)) (ht : plainT g (a ++ l) = .fine kind a.length) :
  Sees s g p ⟨kind, ⟨a.toArray⟩, ((p + 1 : Nat) : Int), ((p + 1 + a.length : Nat) : Int), false⟩ := by
 have hlt := tx_lt hd
 have hd1 := tx_next hd
 refine ⟨by omega, by omega, p + 1, a.length, ?_, ?_⟩
 ·rw [Int.toNat_natCast]
  refine nxt_12 hg ((btw_32 hd).trans (btw_ink hd1 (by omega) ⟨hi.1, hi.2 _ (by omega)⟩)) ?_
  rw [hd1]
  exact ht
 ·unfold tkOf
  rw [tx_piece hd1]
def endT (p : Nat) : Tk := ⟨0, ⟨#[]⟩, p, p, false⟩
theorem sees_end {g : Int} (hg : g = 1 ∨ g = 2) (hd : s.data.toList.drop p = []) (hp : p ≤ s.size) : Sees s g p (endT p) := by
 refine ⟨by omega, by omega, p, 0, ?_, ?_⟩
 ·rw [Int.toNat_natCast]
  refine nxt_12 hg (btw_ink hd hp ⟨rfl, ?_⟩) ?_
  ·unfold cmKind
   rw [if_neg (by decide), if_neg (by decide), if_neg (by simp [Lib.hasPrefix])]
  ·rw [hd]
   rfl
 ·unfold tkOf endT
  have : s.extract p (p + 0) = ⟨#[]⟩ := tx_piece (a := []) (l := []) hd
  rw [this]
  simp
end
def wordC (c : UInt8) : Bool := decide (c.toNat < 128) && partC (c.toNat : Int)
theorem parts_word {l : List UInt8} (hl : goesP false l = false) : ∀ (a : List UInt8), (∀ c ∈ a, wordC c = true) → partsL false (a ++ l) = a.length
 | [], _ => partsL_no hl
 | c :: a, h => by
  have hc := h c (.head _)
  unfold wordC at hc
  rw [Bool.and_eq_true, decide_eq_true_eq] at hc
  have hg : goesP false (c :: (a ++ l)) = true := by
   unfold goesP
   rw [nx_ascii _ _ hc.1, hc.2]
   rfl
  rw [List.cons_append, partsL_yes hg, nx_ascii _ _ hc.1]
  show 1 + partsL false (a ++ l) = _
  rw [parts_word hl a (fun c hc => h c (.tail _ hc)), List.length_cons]
  omega
theorem name_word {c : UInt8} {a l : List UInt8} (hc : c.toNat < 128) (hs : startC (c.toNat : Int) = true) (ha : ∀ c ∈ a, wordC c = true) (hl : goesP false l = false) : nameL false (c :: (a ++ l)) = a.length + 1 := by
 have hw : ∀ x ∈ c :: a, wordC x = true := by
  intro x hx
  rcases List.mem_cons.1 hx with rfl | hx
  ·unfold wordC partC
   rw [decide_eq_true hc, hs]
   rfl
  ·exact ha x hx
 unfold nameL
 rw [nx_ascii _ _ hc, if_pos ⟨show (0 : Int) < 1 by decide, hs⟩, ← List.cons_append, parts_word hl _ hw, List.length_cons]
theorem pre_no {c d : UInt8} {l w : List UInt8} (h : c ≠ d) : Lib.hasPrefix (c :: l) (d :: w) = false := by
 unfold Lib.hasPrefix
 rw [List.isPrefixOf_cons_cons, beq_eq_false_iff_ne.2 (Ne.symm h), Bool.false_and]
theorem plain_word {g : Int} {c : UInt8} {a l : List UInt8} (hlo : low c) (hs : startC (c.toNat : Int) = true) (ha : ∀ c ∈ a, wordC c = true) (hl : goesP false l = false) (hl2 : 0 ≤ (nx l).2) :
  plainT g (c :: a ++ l) = .fine 1 (c :: a).length := by
 obtain ⟨h1, h2⟩ := hlo
 have hn : ∀ d : UInt8, d.toNat < 97 → c ≠ d := by rintro d hd rfl; omega
 have hdig : digAt (c :: (a ++ l)) = false := by
  unfold digAt
  rw [decide_eq_false_iff_not]
  omega
 have hw := name_word (l := l) (by omega) hs ha hl
 rw [List.cons_append]
 unfold plainT
 rw [if_neg (by simp), if_neg (by rw [pre_no (hn _ (by decide))]; decide), if_neg (by rw [pre_no (hn _ (by decide))]; decide), if_neg (by rw [hdig, pre_no (hn 46 (by decide))]; simp), if_neg (by rw [pre_no (hn _ (by decide)), pre_no (hn _ (by decide))]; simp), if_neg (by rw [pre_no (hn _ (by decide))]; simp), hw, if_pos (by omega)]
 unfold aft
 rw [show (c :: (a ++ l)).drop (a.length + 1) = l by rw [List.drop_succ_cons, List.drop_left], if_neg (by omega), List.length_cons]
theorem tx_get {f : Nat → Bool} {m : Nat} (h : (List.range m).all f = true) (n : Nat) (hn : n < m) : f n = true := List.all_eq_true.1 h n (List.mem_range.2 hn)
theorem gap_row : (List.range 127).all (fun n => decide (n < 33) || !(endsR (n : Int) || blankR (n : Int))) = true := by kernel_rfl
theorem low_row : (List.range 127).all (fun n => decide (n < 97 ∨ 122 < n) || startC (n : Int)) = true := by kernel_rfl
theorem ink_of {c : UInt8} {l : List UInt8} (h1 : 33 ≤ c.toNat) (h2 : c.toNat < 127) (h3 : c ≠ 47) (h4 : c ≠ 35) : Ink (c :: l) := by
 refine ⟨?_, fun p hp => ?_⟩
 ·unfold isGap
  rw [nx_ascii _ _ (by omega)]
  show (decide ((0 : Int) < 1) && (endsR (c.toNat : Int) || blankR (c.toNat : Int))) = false
  have h := (Bool.or_eq_true _ _).mp (tx_get gap_row c.toNat h2)
  rw [Bool.not_eq_true', decide_eq_true_eq] at h
  rw [h.resolve_left (by omega), Bool.and_false]
 ·unfold cmKind
  rw [if_neg (by rw [pre_no h3]; decide), if_neg (by rw [pre_no h3]; decide), if_neg (by rw [pre_no h4]; simp)]
theorem low_start {c : UInt8} (h : low c) : startC (c.toNat : Int) = true := by
 obtain ⟨h1, h2⟩ := h
 have h := tx_get low_row c.toNat (by omega)
 simp only [Bool.or_eq_true, decide_eq_true_eq] at h
 exact h.resolve_left (by omega)
end
section
open Go.RowKit
def opsRow : List (List UInt8) := [[124, 124], [38, 38], [124], [94], [38], [61, 61], [33, 61], [61, 61, 61], [33, 61, 61], [60], [62], [60, 61], [62, 61], [105, 110], [105, 110, 115, 116, 97, 110, 99, 101, 111, 102], [60, 60], [62, 62], [62, 62, 62], [43], [45], [42], [47], [37], [42, 42]]
def markC (c : UInt8) : Bool := decide (c.toNat < 128) && !startC (c.toNat : Int) && decide (c ≠ 96 ∧ c ≠ 35 ∧ c ≠ 46 ∧ c ≠ 39 ∧ c ≠ 34 ∧ ¬ (48 ≤ c.toNat ∧ c.toNat ≤ 57))
def txtR : List (List UInt8 × List UInt8) → List UInt8
 | [] => []
 | x :: l => 32 :: (x.1 ++ 32 :: ((118 :: x.2) ++ txtR l))
theorem end_stp (p : Nat) : Stp (endT p) := ⟨.inr rfl, ⟨rfl, rfl, rfl, rfl, (show ¬ (0 : Int) = 7 by decide), (show ¬ (0 : Int) = 8 by decide), rfl, rfl⟩⟩
end
section
open Go.RowKit
section
variable {s : ByteArray} {m : Bool} {i g fl ne ar : Int} {u v : Tk} {n : Nd} {p : Ps} {f : Nat}
theorem cond_z (hb : runQ s m f (.binary 1 false) p = .ok n (Zs i u 1 fl ne ar)) (hk : n.kind ≠ 22) (hq : punctT u ⟨#[63]⟩ = false) : runQ s m (f + 1) .cond p = .ok n (Zs i u 1 fl ne ar) := by
 show condS s (runQ s m f) p = _
 unfold condS
 rw [PM.go hb, if_neg hk, PM.go (is_no (peek_old (by decide)) hq), if_neg (by decide)]
 rfl
theorem assigned_z (hk : n.kind ≠ 22) (ha : assigningT u = false) : runQ s m (f + 1) (.assigned n) (Zs i u 1 fl ne ar) = .ok n (Zs i u 1 fl ne ar) := by
 show assignedS s (runQ s m f) n _ = _
 unfold assignedS
 rw [if_neg hk, PM.go (peek_old (by decide)), if_neg (by rw [ha]; decide)]
 rfl
theorem deeper_z {α : Type} {x : PM α} {i' : Int} {u' : Tk} {g' fl' ar' place : Int} {a : α} (h0 : 0 ≤ ne) (h1 : ne < 4000) (hx : x (Zs i u g fl (ne + 1) ar) = .ok a (Zs i' u' g' fl' (ne + 1) ar')) : deeperP place x (Zs i u g fl ne ar) = .ok a (Zs i' u' g' fl' ne ar') := by
 unfold deeperP
 show (if 4000 ≤ ne then _ else _) = _
 rw [if_neg (by omega)]
 show PM.bind x _ (Zs i u g fl (ne + 1) ar) = _
 unfold PM.bind
 rw [hx]
 show (if ne + 1 ≤ 0 then _ else _) = _
 rw [if_neg (by omega)]
 show Res.ok a (Zs _ _ _ _ (ne + 1 - 1) _) = _
 rw [Int.add_sub_cancel]
 rfl
theorem expression_z (ha : runQ s m f .assign p = .ok n (Zs i u 1 fl ne ar)) (hc : punctT u ⟨#[44]⟩ = false) : runQ s m (f + 1) .expression p = .ok n (Zs i u 1 fl ne ar) := by
 show expressionS s f (runQ s m f) p = _
 unfold expressionS
 rw [PM.go ha, PM.go (peek_old (by decide)), if_neg (by rw [hc]; decide)]
 rfl
theorem expr_z (he : runQ s m f .expression (ps0 m) = .ok n (Zs i u 1 fl ne ar)) (hu : u.kind = 0) (hn : noProp n = true) (hz : ndSize n ≤ 8000) : exprQ s m f = .ok n (Zs i u 1 fl ne ar) := by
 have hd := deep_le n
 unfold exprQ readQ expr1S
 rw [PM.go (show _ = Res.ok n (Zs i u 1 fl ne ar) by rw [PM.go he, PM.go (peek_old (by decide)), if_pos hu]; rfl), if_neg (by rw [hn]; decide), if_neg (by omega), if_neg (by omega)]
 rfl
end
end
section
open Go.RowKit
def IntsArg (w : World) (ao : Option Addr) (len : Nat) : Prop := ∀ j, j < len → ∃ b off, ao = some ⟨b, off, none⟩ ∧ b < w.heap.size ∧ ∃ z : Int, w.cell? ⟨b, off + j, none⟩ = some (.int .i64 z)
def rowL : Nat → List (List UInt8) → List (List UInt8 × List UInt8)
 | _, [] => []
 | k, o :: os => (o, dcl (k + 1)) :: rowL (k + 1) os
theorem rowL_snoc : ∀ (os : List (List UInt8)) (k : Nat) (o : List UInt8), rowL k (os ++ [o]) = rowL k os ++ [(o, dcl (k + os.length + 1))]
 | [], _, _ => rfl
 | a :: os, k, o => by
  rw [List.cons_append, rowL, rowL, rowL_snoc os, List.cons_append, List.length_cons, show k + 1 + os.length + 1 = k + (os.length + 1) + 1 by omega]
theorem txtR_snoc : ∀ (a : List (List UInt8 × List UInt8)) (x : List UInt8 × List UInt8), txtR (a ++ [x]) = txtR a ++ 32 :: (x.1 ++ 32 :: 118 :: x.2)
 | [], x => by simp [txtR]
 | y :: a, x => by rw [List.cons_append, txtR, txtR, txtR_snoc a x]; simp
theorem opsRow_len : ∀ o ∈ opsRow, o.length ≤ 10 := by decide
theorem pickN (i : Int) (n : Nat) (hn : 0 < n) : ∃ a : Nat, (IntKind.u64.wrap i).tmod n = (a : Int) ∧ a < n := by
 have e : IntKind.u64.wrap i = i % 18446744073709551616 := rfl
 have h1 : 0 ≤ (IntKind.u64.wrap i).tmod n := by rw [e, Int.tmod_eq_emod_of_nonneg (by omega)]; exact Int.emod_nonneg _ (by omega)
 have h2 : (IntKind.u64.wrap i).tmod n < n := by rw [e, Int.tmod_eq_emod_of_nonneg (by omega)]; exact Int.emod_lt_of_pos _ (by omega)
 exact ⟨((IntKind.u64.wrap i).tmod n).toNat, by omega, by omega⟩
def StrS (g : Nat) (l : List (List UInt8)) (W : World) : Prop := g < W.heap.size ∧ ∀ a, (h : a < l.length) → W.cell? ⟨g, a, none⟩ = some (.string ⟨l[a].toArray⟩)
theorem StrS.new (w : World) (l : List (List UInt8)) (T : TypeId) : StrS w.heap.size l (w.alloc (.cells (l.map fun o => Value.string ⟨o.toArray⟩).toArray T)) := by
 refine ⟨by rw [World.size_alloc]; exact Nat.lt_succ_self _, fun a h => ?_⟩
 rw [cell_of_row _ _ _ _ T (0, 0) (heap_alloc_new _ _), List.getElem?_toArray, List.getElem?_map, List.getElem?_eq_getElem h]
 rfl
theorem StrS.bel {g : Nat} {l : List (List UInt8)} {w w' : World} (h : StrS g l w) (hb : Below w.heap.size w w') : StrS g l w' :=
 ⟨Nat.lt_of_lt_of_le h.1 hb.size, fun a ha => (World.cell?_of_block (hb.block g h.1)).trans (h.2 a ha)⟩
theorem StrS.lay {g r : Nat} {l : List (List UInt8)} {w : World} (h : StrS g l w) (hr : g ≠ r) (k : Int) (t : ByteArray) (v : Value) (f u : Int) : StrS g l (lay5 w r k t v f u) :=
 ⟨by rw [lay5_size]; exact h.1, fun a ha => (World.cell?_of_block (lay5_block _ _ _ _ _ _ _ _ hr)).trans (h.2 a ha)⟩
theorem push_bel2 {B : Nat} {a w w1 : World} {o : Obj} {v : Value} {T : TypeId} {n m : Nat} {xs : List Value} (hb : Below B a w) (hB : B ≤ w.heap.size) (ho : w.ownsRow B T m v n xs) (hg : (w.alloc o).grownBy w1 v.ownBlock) : Below B a w1 := by
 refine (hb.alloc hB o).grown hg ?_ ?_
 ·rw [World.size_alloc]; omega
 ·intro k hk
  rcases ho.2 with ⟨rfl, _⟩ | ⟨g, cap, cur, rfl, h, _⟩
  ·cases hk
  ·cases hk; exact h
structure OSt (w : World) (os : List (List UInt8)) (ov sv : Value) (wr : World) : Prop where
 own : wr.ownsRow w.heap.size 9 1 ov os.length (os.map fun o => Value.string ⟨o.toArray⟩)
 bel : Below w.heap.size w wr
 mem : ∀ o ∈ os, o ∈ opsRow
 txt : ∃ S : ByteArray, sv = .string S ∧ S.data.toList = (118 :: dcl 0) ++ txtR (rowL 0 os) ∧ S.size ≤ 20 * os.length + 2
theorem OSt.next {w wr w2 w3 : World} {os : List (List UInt8)} {ov v : Value} {S X t : ByteArray} {o : List UInt8} {ob : Obj} {m : Nat} (h : OSt w os ov (.string S) wr) (hm : os.length = m) (hk : m < 40) (ho : o ∈ opsRow) (ht : (⟨o.toArray⟩ : ByteArray) = t) (hg : (wr.alloc ob).grownBy w2 ov.ownBlock)
  (hown : w2.ownsRow w.heap.size 9 1 v (m + 1) ((os.map fun o => Value.string ⟨o.toArray⟩) ++ [.string t])) (hb : Below w2.heap.size w2 w3) (hX : X.data.toList = S.data.toList ++ 32 :: (o ++ 32 :: 118 :: dcl (m + 1))) :
  OSt w (os ++ [o]) v (.string X) w3 := by
 subst hm
 subst ht
 refine ⟨?_, bel_next (push_bel2 h.bel h.bel.size h.own hg) hb, ?_, X, rfl, ?_, ?_⟩
 ·rw [List.length_append, List.map_append]
  exact own_below hown hb
 ·intro x hx
  rcases List.mem_append.1 hx with hx | hx
  ·exact h.mem x hx
  ·rw [List.mem_singleton.1 hx]; exact ho
 ·obtain ⟨S', e, h1, _⟩ := h.txt
  injection e with e
  subst e
  rw [rowL_snoc, txtR_snoc, hX, h1, Nat.zero_add]
  simp
 ·obtain ⟨S', e, h1, h2⟩ := h.txt
  injection e with e
  subst e
  have h3 := opsRow_len o ho
  have h4 := (dcl_row ⟨os.length + 1, by omega⟩).1
  simp only at h4
  have h5 := ba_size hX
  have h6 : S.data.toList.length = S.size := Array.length_toList
  rw [List.length_append, h6] at h5
  simp at h5 ⊢
  omega
end
section
open Go.RowKit
theorem Sees.uniq {s : ByteArray} {g i : Int} {t u : Tk} (h : Sees s g i t) (k : Sees s g i u) : t = u := by
 obtain ⟨_, _, q, n, h1, h2⟩ := h
 obtain ⟨_, _, q', n', k1, k2⟩ := k
 rw [h1] at k1
 injection k1 with e1 e2 e3 e4
 rw [← h2, ← k2, e1, e2, e3, e4]
section
variable {s : ByteArray} {m : Bool} {i g fl ne ar : Int} {u v t d b e : Tk} {n : Nd} {p : Ps} {f : Nat}
theorem link_dot (f : Nat) (n : Nd) (calls tmpl : Bool) (hd : punctT d ⟨#[46]⟩ = true) (hp : peekP s 1 p = .ok d (Zs i d 1 fl ne ar)) (hb : Sees s 1 d.till b) (hk : b.kind = 1) :
  runQ s m (f + 1) (.link n calls tmpl) p = .ok (.mk 38 ⟨#[]⟩ [n, leafN 1 b] n.from' b.till, true) (Zs b.till b 0 fl ne ar) := by
 show linkS s (runQ s m f) n calls tmpl _ = _
 unfold linkS
 rw [PM.go hp, if_pos hd, PM.go take_z]
 have h2 : propertyP s (decide (n.kind ≠ 6) || decide (n.text ≠ ⟨#[115, 117, 112, 101, 114]⟩)) (Zs d.till d 0 fl ne ar) = .ok (leafN 1 b) (Zs b.till b 0 fl ne ar) := by
  unfold propertyP
  rw [PM.go (peek_new hb), if_pos hk, PM.go take_z]
  rfl
 rw [PM.go h2]
 rfl
def sgB (t : Tk) : Bool := nameT t ⟨#[100, 101, 108, 101, 116, 101]⟩ || nameT t ⟨#[118, 111, 105, 100]⟩ || nameT t ⟨#[116, 121, 112, 101, 111, 102]⟩ || punctT t ⟨#[43]⟩ || punctT t ⟨#[45]⟩ || punctT t ⟨#[126]⟩ || punctT t ⟨#[33]⟩
structure SgT (o : Tk) : Prop where
 k2 : o.kind ≠ 2
 yi : nameT o ⟨#[121, 105, 101, 108, 100]⟩ = false
 asy : nameT o ⟨#[97, 115, 121, 110, 99]⟩ = false
 aw : nameT o ⟨#[97, 119, 97, 105, 116]⟩ = false
 arr : punctT o ⟨#[61, 62]⟩ = false
def Sg1 (o : Tk) : Prop := sgB o = true ∧ o.text ≠ ⟨#[43, 43]⟩ ∧ o.text ≠ ⟨#[45, 45]⟩
def Sg2 (o : Tk) : Prop := sgB o = false ∧ (punctT o ⟨#[43, 43]⟩ || punctT o ⟨#[45, 45]⟩) = true
def SgR (s : ByteArray) (e : Tk) : Int → List Tk → Prop
 | i, [] => ∃ t d b : Tk, Nm t ∧ Sees s 2 i t ∧ Sees s 1 i t ∧ Sees s 1 t.till d ∧ punctT d ⟨#[46]⟩ = true ∧ Sees s 1 d.till b ∧ b.kind = 1 ∧ Sees s 1 b.till e ∧ t.text = ⟨#[97]⟩ ∧ b.text = ⟨#[98]⟩
 | i, o :: l => Sees s 2 i o ∧ Sees s 1 i o ∧ SgT o ∧ (Sg1 o ∨ (Sg2 o ∧ l = [])) ∧ SgR s e o.till l
theorem SgR.head {l : List Tk} (h : SgR s e i l) : ∃ v, Sees s 2 i v ∧ Sees s 1 i v ∧ v.kind ≠ 2 ∧ nameT v ⟨#[121, 105, 101, 108, 100]⟩ = false ∧ nameT v ⟨#[97, 115, 121, 110, 99]⟩ = false ∧ punctT v ⟨#[61, 62]⟩ = false := by
 cases l with
 | nil =>
  obtain ⟨t, d, b, h1, h2, h3, _⟩ := h
  exact ⟨t, h2, h3, by rw [h1.kind]; decide, h1.nameT (by decide), nameT_ne h1.asy, h1.punctT _⟩
 | cons o l => exact ⟨o, h.1, h.2.1, h.2.2.1.k2, h.2.2.1.yi, h.2.2.1.asy, h.2.2.1.arr⟩
theorem bare_one {k : Int} {x : ByteArray} {a : Nd} {y z : Int} (h : ¬ k = 26) : bareNd (.mk k x [a] y z) = .mk k x [bareNd a] 0 0 := by
 rw [bareNd, if_neg h, bareNds, bareNds]
theorem bin_end (ho : runQ s m (f + 1) (.operand 1) p = .ok n (Zs i u 1 1 ne ar)) (hk : n.kind ≠ 22) (hu : Stp u) : runQ s m (f + 2) (.binary 1 false) p = .ok n (Zs i u 1 1 ne ar) := by
 show binaryS s (f + 1) (runQ s m (f + 1)) 1 false p = _
 unfold binaryS
 rw [PM.go ho, if_neg hk]
 obtain ⟨r, r1, r2⟩ := operator_no (s := s) (i := i) (ne := ne) (ar := ar) hu
 unfold binaryS.opsL
 rw [PM.go r2, if_pos (.inr r1)]
 rfl
theorem operand_any (least : Int) (hp : peekP s 2 p = .ok v (Zs i v g fl ne ar)) (hk : v.kind ≠ 2) : runQ s m (f + 1) (.operand least) p = runQ s m f .unary (Zs i v g fl ne ar) := by
 show operandS s (runQ s m f) least p = _
 unfold operandS
 rw [PM.go hp, if_pos hk]
theorem single_any (hv : nameT v ⟨#[97, 115, 121, 110, 99]⟩ = false) (hu : Sees s 1 v.till u) (har : punctT u ⟨#[61, 62]⟩ = false) : assignS.single s m v (Zs i v g fl ne ar) = .ok false (Zs i v g fl ne ar) := by
 unfold assignS.single
 rw [PM.go (get_z _), if_neg (by rw [hv]; decide)]
 show ((pure v : PM Tk) >>= _) _ = _
 rw [PM.go (show (pure v : PM Tk) (Zs i v g fl ne ar) = .ok v (Zs i v g fl ne ar) from rfl), PM.go (look_z hu _), if_pos (by rw [har]; simp)]
 rfl
theorem assign_any {i' g' fl' ar' i2 g2 fl2 ar2 : Int} {u' u2 : Tk} {n2 : Nd} (hy : nameT v ⟨#[121, 105, 101, 108, 100]⟩ = false) (hv : nameT v ⟨#[97, 115, 121, 110, 99]⟩ = false) (hp : peekP s 2 p = .ok v (Zs i v g fl ne ar)) (hu : Sees s 1 v.till u) (har : punctT u ⟨#[61, 62]⟩ = false) (h0 : 0 ≤ ne) (h1 : ne < 4000)
  (hc : runQ s m f .cond (Zs i v g fl (ne + 1) v.from') = .ok n (Zs i' u' g' fl' (ne + 1) ar')) (ha : runQ s m f (.assigned n) (Zs i' u' g' fl' (ne + 1) ar') = .ok n2 (Zs i2 u2 g2 fl2 (ne + 1) ar2)) :
  runQ s m (f + 1) .assign p = .ok n2 (Zs i2 u2 g2 fl2 ne ar2) := by
 show assignS s m (runQ s m f) p = _
 unfold assignS
 rw [PM.go hp]
 refine deeper_z h0 h1 ?_
 rw [PM.go (get_z _), if_neg (by rw [hy]; simp), PM.go (single_any hv hu har), if_neg (by decide)]
 rw [PM.go (show modP (fun q => { q with arrow := v.from' }) (Zs i v g fl (ne + 1) ar) = .ok () (Zs i v g fl (ne + 1) v.from') from rfl), PM.go hc]
 exact ha
end
end
section
open Go.RowKit
section
variable {s : ByteArray} {p : Nat}
def Ink0 (l : List UInt8) : Prop := isGap l = false ∧ ∀ p, cmKind p l = 0
theorem ink0_of {c : UInt8} {l : List UInt8} (h1 : 33 ≤ c.toNat) (h2 : c.toNat < 127) (h3 : c ≠ 47) (h4 : c ≠ 35) : Ink0 (c :: l) := by
 refine ⟨(ink_of h1 h2 h3 h4).1, fun p => ?_⟩
 unfold cmKind
 rw [if_neg (by rw [pre_no h3]; decide), if_neg (by rw [pre_no h3]; decide), if_neg (by rw [pre_no h4]; simp)]
theorem sees_adj {g : Int} (hg : g = 1 ∨ g = 2) {a l : List UInt8} {kind : Int} (hd : s.data.toList.drop p = a ++ l) (hp : p ≤ s.size) (hi : Ink0 (a ++ l)) (ht : plainT g (a ++ l) = .fine kind a.length) :
  Sees s g p ⟨kind, ⟨a.toArray⟩, (p : Int), ((p + a.length : Nat) : Int), false⟩ := by
 refine ⟨by omega, by omega, p, a.length, ?_, ?_⟩
 ·rw [Int.toNat_natCast]
  refine nxt_12 hg (btw_ink hd hp ⟨hi.1, hi.2 _⟩) ?_
  rw [hd]
  exact ht
 ·unfold tkOf
  rw [tx_piece hd]
theorem sees_at {a l : List UInt8} {kind : Int} (hd : s.data.toList.drop p = a ++ l ∨ s.data.toList.drop p = 32 :: (a ++ l)) (hp : p ≤ s.size) (hi : Ink0 (a ++ l)) (ht : ∀ g : Int, g = 1 ∨ g = 2 → plainT g (a ++ l) = .fine kind a.length) :
  ∃ (q : Nat) (fr : Int), q ≤ s.size ∧ s.data.toList.drop q = l ∧ ∀ g : Int, g = 1 ∨ g = 2 → Sees s g p ⟨kind, ⟨a.toArray⟩, fr, (q : Int), false⟩ := by
 rcases hd with hd | hd
 ·exact ⟨p + a.length, p, tx_fits hd hp, tx_app hd, fun g hg => sees_adj hg hd hp hi (ht g hg)⟩
 ·have hlt := tx_lt hd
  exact ⟨p + 1 + a.length, ((p + 1 : Nat) : Int), tx_fits (tx_next hd) hlt, tx_app (tx_next hd), fun g hg => sees_32 hg hd ⟨hi.1, fun p _ => hi.2 p⟩ (ht g hg)⟩
end
theorem sees_nm {s : ByteArray} {p : Nat} {c : UInt8} {l : List UInt8} (hc : low c) (hw : Nm ⟨1, ⟨#[c]⟩, 0, 0, false⟩) (hd : s.data.toList.drop p = c :: l ∨ s.data.toList.drop p = 32 :: c :: l) (hp : p ≤ s.size) (hl : goesP false l = false) (hl2 : 0 ≤ (nx l).2) :
  ∃ (q : Nat) (v : Tk), q ≤ s.size ∧ s.data.toList.drop q = l ∧ v.till = (q : Int) ∧ Nm v ∧ v.text = ⟨#[c]⟩ ∧ ∀ g : Int, g = 1 ∨ g = 2 → Sees s g p v := by
 have h1 := hc.1
 have h2 := hc.2
 obtain ⟨q, fr, q1, q2, q3⟩ := sees_at (a := [c]) (l := l) (kind := 1) hd hp (ink0_of (by omega) (by omega) (by rintro rfl; simp at h1) (by rintro rfl; simp at h1)) (fun g hg => plain_word (a := []) hc (low_start hc) (fun x hx => by cases hx) hl hl2)
 exact ⟨q, ⟨1, ⟨#[c]⟩, fr, (q : Int), false⟩, q1, q2, rfl, ⟨hw.kind, hw.res, hw.aw, hw.asy, hw.sl⟩, rfl, q3⟩
theorem nm_a : Nm ⟨1, ⟨#[97]⟩, 0, 0, false⟩ := ⟨rfl, by decide, by decide, by decide, rfl⟩
theorem nm_v : Nm ⟨1, ⟨#[118]⟩, 0, 0, false⟩ := ⟨rfl, by decide, by decide, by decide, rfl⟩
theorem plain_markg {g : Int} {c : UInt8} {l : List UInt8} {n : Nat} (hc : markC c = true) (h47 : c ≠ 47) (hp : pct g (c :: l) = n) (hn : n ≠ 0) : plainT g (c :: l) = .fine 5 n := by
 unfold markC at hc
 rw [Bool.and_eq_true, Bool.and_eq_true, decide_eq_true_eq, decide_eq_true_eq, Bool.not_eq_true'] at hc
 obtain ⟨⟨h1, h2⟩, h3, h4, h5, h6, h7, h8⟩ := hc
 have hdig : digAt (c :: l) = false := by
  unfold digAt
  rw [decide_eq_false_iff_not]
  exact h8
 have hname : nameL false (c :: l) = 0 := by
  unfold nameL
  rw [nx_ascii _ _ h1, if_neg]
  rintro ⟨_, h⟩
  simp only at h
  rw [h2] at h
  cases h
 unfold plainT
 rw [if_neg (by simp), if_neg (by rw [pre_no h3]; decide), if_neg (by rw [pre_no h4]; decide), if_neg (by rw [hdig, pre_no h5]; simp), if_neg (by rw [pre_no h6, pre_no h7]; simp), if_neg (by rintro ⟨_, h⟩; rw [pre_no h47] at h; cases h), if_neg (by rw [hname]; simp), hp, if_pos hn]
theorem pct_no {g : Int} {c : UInt8} {l : List UInt8} (h : c ≠ 47) : pct g (c :: l) = match pctRow.find? (pctIs (c :: l)) with | some w => w.length | none => 0 := by
 unfold pct
 rw [if_neg (by rintro ⟨_, h1⟩; rw [pre_no h] at h1; cases h1), if_neg (by rintro ⟨_, h1⟩; rw [pre_no h] at h1; cases h1)]
 rfl
theorem plain_dot {g : Int} {c : UInt8} {l : List UInt8} (hc : low c) : plainT g (46 :: c :: l) = .fine 5 1 := by
 obtain ⟨h1, h2⟩ := hc
 have hdig : digAt (46 :: c :: l) = false := rfl
 have hdig2 : digAt (c :: l) = false := by
  unfold digAt
  rw [decide_eq_false_iff_not]
  omega
 have hname : nameL false (46 :: c :: l) = 0 := by
  unfold nameL
  rw [nx_ascii _ _ (by decide), if_neg]
  rintro ⟨_, h⟩
  revert h
  decide
 have h46 : c ≠ 46 := by rintro rfl; simp at h1
 have hpct : pct g (46 :: c :: l) = 1 := by
  rw [pct_no (by decide)]
  have hf : pctRow.find? (pctIs (46 :: c :: l)) = some [46] := by
   have hb : (46 == c) = false := beq_eq_false_iff_ne.2 (Ne.symm h46)
   simp [pctRow, pctIs, Lib.hasPrefix, List.find?, hb, List.isPrefixOf]
  rw [hf]
  rfl
 unfold plainT
 rw [if_neg (by simp), if_neg (by rw [pre_no (by decide)]; decide), if_neg (by rw [pre_no (by decide)]; decide), if_neg (by rw [hdig, List.drop_succ_cons, List.drop_zero, hdig2]; simp), if_neg (by rw [pre_no (by decide), pre_no (by decide)]; simp), if_neg (by rintro ⟨_, h⟩; rw [pre_no (by decide)] at h; cases h), if_neg (by rw [hname]; simp), hpct, if_pos (by decide)]
end
section
open Go.RowKit
theorem WSt.first {w0 w : World} (hb : Below w0.heap.size w0 w) {ns : List Kd} (hn : ∀ x ∈ ns, x.1.kids.length ≤ x.2.2 ∧ RowA w (w.heap.size + 1) w.heap.size x.1.kids x.2.1) {m : Nat} (hm : ns.length = m) (k : Int) (t : ByteArray) :
  WSt w0 (w.heap.size + 1) (.mk k t (ns.map (·.1)) 0 0) ((w.alloc (.cells (ns.flatMap cells5).toArray 31)).alloc (.cells #[.int .i64 k, .string t, .slice (some ⟨w.heap.size, 0, none⟩) m m, .int .i64 0, .int .i64 0] 31)) := by
 subst hm
 have hnew := heap_alloc_new (w.alloc (.cells (ns.flatMap cells5).toArray 31)) (.cells #[.int .i64 k, .string t, .slice (some ⟨w.heap.size, 0, none⟩) ns.length ns.length, .int .i64 0, .int .i64 0] 31)
 rw [World.size_alloc] at hnew
 refine ⟨⟨some ⟨w.heap.size, 0, none⟩, ns.length, ?_, ?_, ?_⟩, (hb.alloc hb.size _).alloc (by rw [World.size_alloc]; have := hb.size; omega) _, by have := hb.size; omega⟩
 ·show NdBoxV _ _ k t (.slice _ (ns.map (·.1)).length _) 0 0
  rw [List.length_map]
  exact hnew
 ·show (ns.map (·.1)).length ≤ _
  rw [List.length_map]
  exact Nat.le_refl _
 ·exact (RowA.new (w := w) (W := w.alloc (.cells (ns.flatMap cells5).toArray 31)) ns hn (by omega) (heap_alloc_new _ _) fun k hk _ => Below.heap_alloc _ _ _ hk).bel (fun k hk _ => Below.heap_alloc _ _ _ (by rw [World.size_alloc]; exact hk)) (by rw [World.size_alloc, World.size_alloc]; omega)
end
section
open Go.RowKit
section
variable {s : ByteArray} {m : Bool} {i g fl ne ar : Int} {u v t d b e : Tk} {n : Nd} {p : Ps} {f : Nat}
theorem binary_nm (f : Nat) (h : Nm v) (hg : g = 1 ∨ g = 2) (hp : peekP s 2 p = .ok v (Zs i v g 1 ne ar)) (hu : Sees s 1 v.till u) (hst : Stp u) : runQ s m (f + 7) (.binary 1 false) p = .ok (leafN 1 v) (Zs v.till u 1 1 ne ar) :=
 bin_end (operand_z f 1 h hg hp hst.e hu) (leaf_k v) hst
theorem assign_nm (f : Nat) (h : Nm v) (hg : g = 1 ∨ g = 2) (hp : peekP s 2 p = .ok v (Zs i v g 1 ne ar)) (hu : Sees s 1 v.till u) (hst : Stp u) (hq : punctT u ⟨#[63]⟩ = false) (ha : assigningT u = false) (har : punctT u ⟨#[61, 62]⟩ = false) (h0 : 0 ≤ ne) (h1 : ne < 4000) :
  runQ s m (f + 9) .assign p = .ok (leafN 1 v) (Zs v.till u 1 1 ne v.from') :=
 assign_any (nameT_ne (h.ne (by decide))) (nameT_ne h.asy) hp hu har h0 h1 (cond_z (binary_nm f h hg (peek_self hg h.sl (by decide)) hu hst) (leaf_k v) hq) (assigned_z (leaf_k v) ha)
theorem setF_1 : setF 1 1 0 = 1 := by first | rfl | decide | kernel_rfl
theorem with_z {α : Type} {x : PM α} {y : α} {i' g' ar' : Int} {u' : Tk} (hx : x (Zs i u g 1 ne ar) = .ok y (Zs i' u' g' 1 ne ar')) : withP 1 0 x (Zs i u g 1 ne ar) = .ok y (Zs i' u' g' 1 ne ar') := by
 have e : ({ Zs i u g 1 ne ar with flags := setF (Zs i u g 1 ne ar).flags 1 0 } : Ps) = Zs i u g 1 ne ar := by
  show (⟨i, u, [], g, [], setF 1 1 0, ne, ar, []⟩ : Ps) = _
  rw [setF_1]
  rfl
 unfold withP
 rw [e]
 unfold PM.bind
 rw [hx]
 rfl
def AsR (s : ByteArray) (e : Tk) : Int → List (Tk × Tk × Option (Tk × Tk)) → Prop
 | i, [] => ∃ v : Tk, Nm v ∧ v.text = ⟨#[118]⟩ ∧ Sees s 2 i v ∧ Sees s 1 i v ∧ Sees s 1 v.till e
 | i, (a, o, none) :: l => Nm a ∧ a.text = ⟨#[97]⟩ ∧ Sees s 2 i a ∧ Sees s 1 a.till o ∧ Stp o ∧ punctT o ⟨#[61, 62]⟩ = false ∧ punctT o ⟨#[63]⟩ = false ∧ assigningT o = true ∧ AsR s e o.till l
 | i, (a, o, some (t, d)) :: l => Nm a ∧ a.text = ⟨#[99]⟩ ∧ Sees s 2 i a ∧ Sees s 1 a.till o ∧ Stp o ∧ punctT o ⟨#[61, 62]⟩ = false ∧ punctT o ⟨#[63]⟩ = true ∧
   Nm t ∧ t.text = ⟨#[116]⟩ ∧ Sees s 2 o.till t ∧ Sees s 1 t.till d ∧ Stp d ∧ punctT d ⟨#[58]⟩ = true ∧ AsR s e d.till l
theorem AsR.head {l : List (Tk × Tk × Option (Tk × Tk))} (h : AsR s e i l) : ∃ v, Sees s 2 i v ∧ Nm v := by
 match l, h with
 | [], ⟨v, h1, _, h2, _⟩ => exact ⟨v, h2, h1⟩
 | (a, o, none) :: l, ⟨h1, _, h2, _⟩ => exact ⟨a, h2, h1⟩
 | (a, o, some (t, d)) :: l, ⟨h1, _, h2, _⟩ => exact ⟨a, h2, h1⟩
theorem bare_kids {k : Int} {x : ByteArray} {ks : List Nd} {y z : Int} (h : ¬ k = 26) : bareNd (.mk k x ks y z) = .mk k x (bareNds ks) 0 0 := by
 rw [bareNd, if_neg h]
end
end
section
open Go.RowKit
section
variable {s : ByteArray} {m : Bool} {i g fl ne ar : Int} {u v t d b e o a c q : Tk} {n : Nd} {p : Ps} {f : Nat}
structure Cls (c : Tk) : Prop where
 stp : Stp c
 q : punctT c ⟨#[63]⟩ = false
 asg : assigningT c = false
 arr : punctT c ⟨#[61, 62]⟩ = false
 com : punctT c ⟨#[44]⟩ = false
theorem args_z (f : Nat) (hp : peekP s 1 p = .ok o (Zs i o 1 1 ne ar)) (ho : punctT o ⟨#[40]⟩ = true) (ha : Nm a) (hsa : Sees s 2 o.till a) (hc : Sees s 1 a.till c) (hcp : punctT c ⟨#[41]⟩ = true) (hcl : Cls c) (h0 : 0 ≤ ne) (h1 : ne < 4000) :
  runQ s m (f + 12) .args p = .ok (.mk 36 ⟨#[]⟩ [leafN 1 a] o.from' c.till) (Zs c.till c 0 1 ne a.from') := by
 show argsS s (runQ s m (f + 11)) p = _
 unfold argsS
 have hw : wantP s ⟨#[40]⟩ p = .ok o (Zs o.till o 0 1 ne ar) := by
  unfold wantP
  rw [PM.go hp, if_pos ho]
  rfl
 rw [PM.go hw]
 show argumentsQ s (f + 10) (runQ s m (f + 10)) o.from' _ = _
 unfold argumentsQ
 have hsp : runQ s m (f + 10) .spread (Zs o.till a 2 1 ne ar) = .ok (leafN 1 a) (Zs a.till c 1 1 ne a.from') := by
  show spreadS s (runQ s m (f + 9)) _ = _
  unfold spreadS
  rw [PM.go (peek_old (by decide)), if_neg (by rw [ha.punctT]; decide)]
  exact assign_nm f ha (.inr rfl) (peek_old (by decide)) hc hcl.stp hcl.q hcl.asg hcl.arr h0 h1
 have hone : (if 4194304 < ([] : List Nd).length then outP else do
   let k ← runQ s m (f + 10) .spread
   commaP s k
   return ([] : List Nd) ++ [k] : PM (List Nd)) (Zs o.till a 2 1 ne ar) = .ok [leafN 1 a] (Zs a.till c 1 1 ne a.from') := by
  rw [if_neg (by decide), PM.go hsp]
  unfold commaP
  rw [if_neg (show ¬ (leafN 1 a).kind = 18 by show ¬ (1 : Int) = 18; decide)]
  rfl
 have hl : listP s ⟨#[41]⟩ 2 (fun kids => if 4194304 < kids.length then outP else do
   let k ← runQ s m (f + 10) .spread
   commaP s k
   return kids ++ [k]) (f + 10) ([] : List Nd) false (Zs o.till o 0 1 ne ar) = .ok ([leafN 1 a], false) (Zs c.till c 0 1 ne a.from') := by
  unfold listP
  rw [PM.go (peek_new hsa), if_neg (by rw [ha.punctT]; decide), PM.go hone, PM.go (peek_old (by decide)), if_pos hcp, PM.go take_z]
  rfl
 rw [PM.go (with_z hl)]
 rfl
theorem index_z (f : Nat) {i0 : Int} (ha : Nm a) (hsa : Sees s 2 i0 a) (hc : Sees s 1 a.till c) (hcp : punctT c ⟨#[93]⟩ = true) (hcl : Cls c) (h0 : 0 ≤ ne) (h1 : ne < 4000) :
  runQ s m (f + 12) .index (Zs i0 o 0 1 ne ar) = .ok (leafN 1 a) (Zs c.till c 0 1 ne a.from') := by
 show indexS s (runQ s m (f + 11)) _ = _
 unfold indexS
 have hx : runQ s m (f + 10) .expression (Zs i0 o 0 1 ne ar) = .ok (leafN 1 a) (Zs a.till c 1 1 ne a.from') :=
  expression_z (assign_nm f ha (.inr rfl) (peek_new hsa) hc hcl.stp hcl.q hcl.asg hcl.arr h0 h1) hcl.com
 have hi : runQ s m (f + 11) .inner (Zs i0 o 0 1 ne ar) = .ok (leafN 1 a) (Zs a.till c 1 1 ne a.from') := by
  show innerS (runQ s m (f + 10)) _ = _
  unfold innerS
  exact with_z hx
 rw [PM.go hi, PM.go (want_yes (peek_old (by decide)) hcp)]
 rfl
theorem punct_text {x : UInt8} (h : punctT d ⟨#[x]⟩ = true) {y : ByteArray} (hy : (⟨#[x]⟩ : ByteArray) ≠ y) : punctT d y = false := by
 unfold punctT at h ⊢
 rw [Bool.and_eq_true, decide_eq_true_eq, decide_eq_true_eq] at h
 rw [h.2, decide_eq_false hy, Bool.and_false]
theorem link_par (f : Nat) (n : Nd) (tmpl : Bool) (hp : peekP s 1 p = .ok o (Zs i o 1 1 ne ar)) (ho : punctT o ⟨#[40]⟩ = true) (ha : Nm a) (hsa : Sees s 2 o.till a) (hc : Sees s 1 a.till c) (hcp : punctT c ⟨#[41]⟩ = true) (hcl : Cls c) (h0 : 0 ≤ ne) (h1 : ne < 4000) :
  runQ s m (f + 13) (.link n true tmpl) p = .ok (.mk 35 ⟨#[]⟩ [n, .mk 36 ⟨#[]⟩ [leafN 1 a] o.from' c.till] n.from' c.till, true) (Zs c.till c 0 1 ne a.from') := by
 show linkS s (runQ s m (f + 12)) n true tmpl _ = _
 unfold linkS
 rw [PM.go hp, if_neg (by rw [punct_text ho (by decide)]; decide), if_neg (by rw [punct_text ho (by decide)]; decide), if_pos (by rw [ho]; rfl), PM.go (args_z f (peek_old (by decide)) ho ha hsa hc hcp hcl h0 h1)]
 rfl
theorem link_brk (f : Nat) (n : Nd) (calls tmpl : Bool) (hp : peekP s 1 p = .ok o (Zs i o 1 1 ne ar)) (ho : punctT o ⟨#[91]⟩ = true) (ha : Nm a) (hsa : Sees s 2 o.till a) (hc : Sees s 1 a.till c) (hcp : punctT c ⟨#[93]⟩ = true) (hcl : Cls c) (h0 : 0 ≤ ne) (h1 : ne < 4000) :
  runQ s m (f + 13) (.link n calls tmpl) p = .ok (.mk 39 ⟨#[]⟩ [n, leafN 1 a] n.from' c.till, true) (Zs c.till c 0 1 ne a.from') := by
 show linkS s (runQ s m (f + 12)) n calls tmpl _ = _
 unfold linkS
 rw [PM.go hp, if_neg (by rw [punct_text ho (by decide)]; decide), if_pos ho, PM.go take_z, PM.go (index_z f ha hsa hc hcp hcl h0 h1)]
 rfl
theorem opt_par (f : Nat) (n : Nd) {i0 : Int} (hs : Sees s 1 i0 o) (ho : punctT o ⟨#[40]⟩ = true) (ha : Nm a) (hsa : Sees s 2 o.till a) (hc : Sees s 1 a.till c) (hcp : punctT c ⟨#[41]⟩ = true) (hcl : Cls c) (h0 : 0 ≤ ne) (h1 : ne < 4000) :
  runQ s m (f + 13) (.optional n) (Zs i0 q 0 1 ne ar) = .ok (.mk 35 ⟨#[63, 46]⟩ [n, .mk 36 ⟨#[]⟩ [leafN 1 a] o.from' c.till] n.from' c.till) (Zs c.till c 0 1 ne a.from') := by
 show optionalS s (runQ s m (f + 12)) n _ = _
 unfold optionalS
 rw [PM.go (peek_new hs), if_neg (by rw [punct_text ho (by decide)]; decide), if_pos ho, PM.go (args_z f (peek_old (by decide)) ho ha hsa hc hcp hcl h0 h1)]
 rfl
theorem opt_brk (f : Nat) (n : Nd) {i0 : Int} (hs : Sees s 1 i0 o) (ho : punctT o ⟨#[91]⟩ = true) (ha : Nm a) (hsa : Sees s 2 o.till a) (hc : Sees s 1 a.till c) (hcp : punctT c ⟨#[93]⟩ = true) (hcl : Cls c) (h0 : 0 ≤ ne) (h1 : ne < 4000) :
  runQ s m (f + 13) (.optional n) (Zs i0 q 0 1 ne ar) = .ok (.mk 39 ⟨#[63, 46]⟩ [n, leafN 1 a] n.from' c.till) (Zs c.till c 0 1 ne a.from') := by
 show optionalS s (runQ s m (f + 12)) n _ = _
 unfold optionalS
 rw [PM.go (peek_new hs), if_pos ho, PM.go take_z, PM.go (index_z f ha hsa hc hcp hcl h0 h1)]
 rfl
theorem opt_dot (f : Nat) (n : Nd) {i0 : Int} (hs : Sees s 1 i0 b) (hk : b.kind = 1) :
  runQ s m (f + 13) (.optional n) (Zs i0 q 0 1 ne ar) = .ok (.mk 38 ⟨#[63, 46]⟩ [n, leafN 1 b] n.from' b.till) (Zs b.till b 0 1 ne ar) := by
 have hno : ∀ x, punctT b x = false := fun x => by unfold punctT; rw [hk]; rfl
 show optionalS s (runQ s m (f + 12)) n _ = _
 unfold optionalS
 rw [PM.go (peek_new hs), if_neg (by rw [hno]; decide), if_neg (by rw [hno]; decide)]
 have h2 : propertyP s true (Zs i0 b 1 1 ne ar) = .ok (leafN 1 b) (Zs b.till b 0 1 ne ar) := by
  unfold propertyP
  rw [PM.go (peek_old (by decide)), if_pos hk, PM.go take_z]
  rfl
 rw [PM.go h2]
 rfl
def LkM (s : ByteArray) (i j : Int) : Prop := ∃ b : Tk, Sees s 1 i b ∧ b.kind = 1 ∧ b.text = ⟨#[109]⟩ ∧ b.till = j
def LkC (s : ByteArray) (i j : Int) : Prop := ∃ o a c : Tk, Sees s 1 i o ∧ punctT o ⟨#[40]⟩ = true ∧ Nm a ∧ a.text = ⟨#[97]⟩ ∧ Sees s 2 o.till a ∧ Sees s 1 a.till c ∧ punctT c ⟨#[41]⟩ = true ∧ Cls c ∧ c.till = j
def LkX (s : ByteArray) (i j : Int) : Prop := ∃ o a c : Tk, Sees s 1 i o ∧ punctT o ⟨#[91]⟩ = true ∧ Nm a ∧ a.text = ⟨#[105]⟩ ∧ Sees s 2 o.till a ∧ Sees s 1 a.till c ∧ punctT c ⟨#[93]⟩ = true ∧ Cls c ∧ c.till = j
def LkO (s : ByteArray) (i : Int) (P : Int → Prop) : Prop := ∃ q : Tk, Sees s 1 i q ∧ punctT q ⟨#[63, 46]⟩ = true ∧ P q.till
def LkI (s : ByteArray) (i : Int) (k : Nat) (j : Int) : Prop := match k with
 | 0 => ∃ d : Tk, Sees s 1 i d ∧ punctT d ⟨#[46]⟩ = true ∧ LkM s d.till j
 | 1 => LkC s i j
 | 2 => LkX s i j
 | 3 => LkO s i fun h => LkM s h j
 | 4 => LkO s i fun h => LkC s h j
 | _ => LkO s i fun h => LkX s h j
def LkR (s : ByteArray) (e : Tk) : Int → List Nat → Prop
 | i, [] => Sees s 1 i e
 | i, k :: l => ∃ j, LkI s i k j ∧ LkR s e j l
def idN (x : UInt8) : Nd := .mk 1 ⟨#[x]⟩ [] 0 0
def lkW (n : Nd) (k : Nat) : Nd := match k with
 | 0 => .mk 38 ⟨#[]⟩ [n, idN 109] 0 0
 | 1 => .mk 35 ⟨#[]⟩ [n, .mk 36 ⟨#[]⟩ [idN 97] 0 0] 0 0
 | 2 => .mk 39 ⟨#[]⟩ [n, idN 105] 0 0
 | 3 => .mk 38 ⟨#[63, 46]⟩ [n, idN 109] 0 0
 | 4 => .mk 35 ⟨#[63, 46]⟩ [n, .mk 36 ⟨#[]⟩ [idN 97] 0 0] 0 0
 | _ => .mk 39 ⟨#[63, 46]⟩ [n, idN 105] 0 0
structure LkA (n N : Nd) (k : Nat) : Prop where
 bare : bareNd N = lkW (bareNd n) k
 np : noProp n = true → noProp N = true
 sz : ndSize N ≤ ndSize n + 3
 kd : N.kind = 35 ∨ N.kind = 38 ∨ N.kind = 39
theorem bare_leaf (t : Tk) {x : UInt8} (h : t.text = ⟨#[x]⟩) : bareNd (leafN 1 t) = idN x := by rw [bare_id, h]; rfl
theorem lka_two {n : Nd} {k : Nat} {K : Int} {T : ByteArray} {t : Tk} {x : UInt8} (h : t.text = ⟨#[x]⟩) (hK : K = 38 ∨ K = 39) (hw : lkW (bareNd n) k = .mk K T [bareNd n, idN x] 0 0) (y z : Int) : LkA n (.mk K T [n, leafN 1 t] y z) k := by
 refine ⟨?_, fun h1 => ?_, ?_, .inr hK⟩
 ·rw [bare_kids (by omega), bareNds, bareNds, bareNds, bare_leaf t h, hw]
 ·rw [noProp, noProps, noProps, noProps, h1, decide_eq_false (show ¬ K = 13 by omega)]; rfl
 ·rw [ndSize, ndSizes, ndSizes, ndSizes, show ndSize (leafN 1 t) = 1 from rfl]; omega
theorem lka_call {n : Nd} {k : Nat} {T : ByteArray} {t : Tk} (h : t.text = ⟨#[97]⟩) (hw : lkW (bareNd n) k = .mk 35 T [bareNd n, .mk 36 ⟨#[]⟩ [idN 97] 0 0] 0 0) (y z y2 z2 : Int) : LkA n (.mk 35 T [n, .mk 36 ⟨#[]⟩ [leafN 1 t] y2 z2] y z) k := by
 refine ⟨?_, fun h1 => ?_, ?_, .inl rfl⟩
 ·rw [bare_kids (by decide), bareNds, bareNds, bareNds, bare_kids (by decide), bareNds, bareNds, bare_leaf t h, hw]
 ·rw [noProp, noProps, noProps, noProps, h1]; rfl
 ·rw [ndSize, ndSizes, ndSizes, ndSizes, ndSize, ndSizes, ndSizes, show ndSize (leafN 1 t) = 1 from rfl]; omega
theorem link_any (f : Nat) (n : Nd) (tmpl : Bool) {k : Nat} {j : Int} (hk : k < 3) (h : LkI s i k j) (hv : Sees s 1 i v) (hp : peekP s 1 p = .ok v (Zs i v 1 1 ne ar)) (h0 : 0 ≤ ne) (h1 : ne < 4000) :
  punctT v ⟨#[63, 46]⟩ = false ∧ ∃ N tk ar', runQ s m (f + 13) (.link n true tmpl) p = .ok (N, true) (Zs j tk 0 1 ne ar') ∧ LkA n N k := by
 match k, hk, h with
 | 0, _, ⟨d, d1, d2, b, b1, b2, b3, b4⟩ =>
  obtain rfl := hv.uniq d1
  subst b4
  exact ⟨punct_text d2 (by decide), _, _, _, link_dot (f + 12) n true tmpl d2 hp b1 b2, lka_two b3 (.inl rfl) rfl _ _⟩
 | 1, _, ⟨o, a, c, o1, o2, a1, a2, a3, c1, c2, c3, c4⟩ =>
  obtain rfl := hv.uniq o1
  subst c4
  exact ⟨punct_text o2 (by decide), _, _, _, link_par f n tmpl hp o2 a1 a3 c1 c2 c3 h0 h1, lka_call a2 rfl _ _ _ _⟩
 | 2, _, ⟨o, a, c, o1, o2, a1, a2, a3, c1, c2, c3, c4⟩ =>
  obtain rfl := hv.uniq o1
  subst c4
  exact ⟨punct_text o2 (by decide), _, _, _, link_brk f n true tmpl hp o2 a1 a3 c1 c2 c3 h0 h1, lka_two a2 (.inr rfl) rfl _ _⟩
theorem opt_any (f : Nat) (n : Nd) {k : Nat} {j : Int} (hk : 3 ≤ k) (h : LkI s i k j) (hv : Sees s 1 i v) (h0 : 0 ≤ ne) (h1 : ne < 4000) :
  punctT v ⟨#[63, 46]⟩ = true ∧ ∃ N tk ar', runQ s m (f + 13) (.optional n) (Zs v.till v 0 1 ne ar) = .ok N (Zs j tk 0 1 ne ar') ∧ LkA n N k := by
 have h3 : k = 3 ∨ k = 4 ∨ ∃ k', k = k' + 5 := by
  rcases Nat.lt_or_ge k 5 with h | h
  ·omega
  ·exact .inr (.inr ⟨k - 5, by omega⟩)
 rcases h3 with rfl | rfl | ⟨k, rfl⟩
 ·obtain ⟨q, q1, q2, b, b1, b2, b3, b4⟩ := (show LkO s i (fun h => LkM s h j) from h)
  obtain rfl := hv.uniq q1
  subst b4
  exact ⟨q2, _, _, _, opt_dot f n b1 b2, lka_two b3 (.inl rfl) rfl _ _⟩
 ·obtain ⟨q, q1, q2, o, a, c, o1, o2, a1, a2, a3, c1, c2, c3, c4⟩ := (show LkO s i (fun h => LkC s h j) from h)
  obtain rfl := hv.uniq q1
  subst c4
  exact ⟨q2, _, _, _, opt_par f n o1 o2 a1 a3 c1 c2 c3 h0 h1, lka_call a2 rfl _ _ _ _⟩
 ·obtain ⟨q, q1, q2, o, a, c, o1, o2, a1, a2, a3, c1, c2, c3, c4⟩ := (show LkO s i (fun h => LkX s h j) from h)
  obtain rfl := hv.uniq q1
  subst c4
  exact ⟨q2, _, _, _, opt_brk f n o1 o2 a1 a3 c1 c2 c3 h0 h1, lka_two a2 (.inr rfl) rfl _ _⟩
theorem LkI.head {k : Nat} {j : Int} (h : LkI s i k j) : ∃ v, Sees s 1 i v ∧ v.kind = 5 := by
 have key : ∀ {t : Tk} {x : ByteArray}, punctT t x = true → t.kind = 5 := fun h => by
  unfold punctT at h
  rw [Bool.and_eq_true, decide_eq_true_eq] at h
  exact h.1
 match k, h with
 | 0, ⟨d, h, h2, _⟩ => exact ⟨d, h, key h2⟩
 | 1, ⟨d, _, _, h, h2, _⟩ => exact ⟨d, h, key h2⟩
 | 2, ⟨d, _, _, h, h2, _⟩ => exact ⟨d, h, key h2⟩
 | 3, ⟨d, h, h2, _⟩ => exact ⟨d, h, key h2⟩
 | 4, ⟨d, h, h2, _⟩ => exact ⟨d, h, key h2⟩
 | _ + 5, ⟨d, h, h2, _⟩ => exact ⟨d, h, key h2⟩
theorem LkR.head {l : List Nat} (h : LkR s e i l) : ∃ v, Sees s 1 i v := by
 match l, h with
 | [], h => exact ⟨e, h⟩
 | k :: l, ⟨j, h, _⟩ => obtain ⟨v, h, _⟩ := h.head; exact ⟨v, h⟩
def lkF (n : Nd) (l : List Nat) : Nd := l.foldl lkW n
def lkN (n : Nd) (l : List Nat) : Nd := if l.any (fun k => decide (3 ≤ k)) then .mk 40 ⟨#[]⟩ [lkF n l] 0 0 else lkF n l
theorem chain_lk (he : Endy e) (f : Nat) (h0 : 0 ≤ ne) (h1 : ne < 4000) : ∀ (l : List Nat) (i ar : Int) (v : Tk) (p : Ps) (n : Nd) (g : Nat), l.length < g → LkR s e i l → Sees s 1 i v → peekP s 1 p = .ok v (Zs i v 1 1 ne ar) → noProp n = true →
  ∃ N j ar', chainS.chainL s (runQ s m (f + 13)) g n p = .ok (.mk 40 ⟨#[]⟩ [N] N.from' j) (Zs j e 1 1 ne ar') ∧ bareNd N = lkF (bareNd n) l ∧ noProp N = true ∧ ndSize N ≤ ndSize n + 3 * l.length
 | [], i, ar, v, p, n, g, hg, hr, hv, hp, hn => by
  obtain ⟨g, rfl⟩ : ∃ x, g = x + 1 := ⟨g - 1, by simp at hg; omega⟩
  obtain rfl := hv.uniq hr
  refine ⟨n, i, ar, ?_, rfl, hn, by simp⟩
  unfold chainS.chainL
  rw [PM.go (show isP s ⟨#[63, 46]⟩ p = .ok false (Zs i v 1 1 ne ar) by unfold isP; rw [PM.go hp, if_neg (by rw [he.opt]; decide)]; rfl), if_neg (by decide), PM.go (link_no (f + 12) n true false he (peek_old (by decide))), if_neg (show ¬ ((false : Bool) = true) by decide)]
  rfl
 | k :: l, i, ar, v, p, n, g, hg, hr, hv, hp, hn => by
  obtain ⟨g, rfl⟩ : ∃ x, g = x + 1 := ⟨g - 1, by simp at hg; omega⟩
  rw [List.length_cons] at hg
  obtain ⟨j, r1, r2⟩ := hr
  obtain ⟨w, w1⟩ := r2.head
  unfold chainS.chainL
  by_cases hk : k < 3
  ·obtain ⟨a1, N, tk, ar1, a2, a3⟩ := link_any (m := m) f n false hk r1 hv (show peekP s 1 (Zs i v 1 1 ne ar) = _ from peek_old (by decide)) h0 h1
   obtain ⟨M, j2, ar2, b1, b2, b3, b4⟩ := chain_lk he f h0 h1 l j ar1 w (Zs j tk 0 1 ne ar1) N g (by omega) r2 w1 (peek_new w1) (a3.np hn)
   refine ⟨M, j2, ar2, ?_, by rw [b2, a3.bare]; rfl, b3, by have := a3.sz; rw [List.length_cons]; omega⟩
   rw [PM.go (show isP s ⟨#[63, 46]⟩ p = .ok false (Zs i v 1 1 ne ar) by unfold isP; rw [PM.go hp, if_neg (by rw [a1]; decide)]; rfl), if_neg (by decide), PM.go a2, if_pos rfl]
   exact b1
  ·obtain ⟨a1, N, tk, ar1, a2, a3⟩ := opt_any (m := m) (ar := ar) f n (by omega) r1 hv h0 h1
   obtain ⟨M, j2, ar2, b1, b2, b3, b4⟩ := chain_lk he f h0 h1 l j ar1 w (Zs j tk 0 1 ne ar1) N g (by omega) r2 w1 (peek_new w1) (a3.np hn)
   refine ⟨M, j2, ar2, ?_, by rw [b2, a3.bare]; rfl, b3, by have := a3.sz; rw [List.length_cons]; omega⟩
   rw [PM.go (show isP s ⟨#[63, 46]⟩ p = .ok true (Zs v.till v 0 1 ne ar) by unfold isP; rw [PM.go hp, if_pos a1]; rfl), if_pos rfl, PM.go a2]
   exact b1
theorem bareNew_no (hk : n.kind ≠ 37) : bareNew n = false := by
 unfold bareNew
 rw [decide_eq_false hk, Bool.false_and]
theorem left_lk (he : Endy e) (f : Nat) (h0 : 0 ≤ ne) (h1 : ne < 4000) : ∀ (l : List Nat) (i ar : Int) (v : Tk) (p : Ps) (n : Nd) (g : Nat), l.length < g → l.length < f + 13 → LkR s e i l → Sees s 1 i v → peekP s 1 p = .ok v (Zs i v 1 1 ne ar) → noProp n = true → n.kind ≠ 37 → n.kind ≠ 22 →
  ∃ N j ar', leftHandS.linkL s (runQ s m (f + 14)) g n p = .ok N (Zs j e 1 1 ne ar') ∧ bareNd N = lkN (bareNd n) l ∧ noProp N = true ∧ ndSize N ≤ ndSize n + 3 * l.length + 1 ∧ N.kind ≠ 22
 | [], i, ar, v, p, n, g, hg, hf, hr, hv, hp, hn, hk, hk2 => by
  obtain ⟨g, rfl⟩ : ∃ x, g = x + 1 := ⟨g - 1, by simp at hg; omega⟩
  obtain rfl := hv.uniq hr
  refine ⟨n, i, ar, ?_, rfl, hn, by simp, hk2⟩
  unfold leftHandS.linkL
  rw [PM.go hp, if_neg (by rw [he.opt]; decide), PM.go (link_no (f + 13) n true true he (peek_old (by decide))), if_neg (show ¬ ((false : Bool) = true) by decide)]
  rfl
 | k :: l, i, ar, v, p, n, g, hg, hf, hr, hv, hp, hn, hk, hk2 => by
  obtain ⟨g, rfl⟩ : ∃ x, g = x + 1 := ⟨g - 1, by simp at hg; omega⟩
  rw [List.length_cons] at hg hf
  have hr0 := hr
  obtain ⟨j, r1, r2⟩ := hr
  obtain ⟨w, w1⟩ := r2.head
  by_cases hk3 : k < 3
  ·obtain ⟨a1, N, tk, ar1, a2, a3⟩ := link_any (m := m) (f + 1) n true hk3 r1 hv (show peekP s 1 (Zs i v 1 1 ne ar) = _ from peek_old (by decide)) h0 h1
   obtain ⟨M, j2, ar2, b1, b2, b3, b4, b5⟩ := left_lk he f h0 h1 l j ar1 w (Zs j tk 0 1 ne ar1) N g (by omega) (by omega) r2 w1 (peek_new w1) (a3.np hn) (by rcases a3.kd with h | h | h <;> omega) (by rcases a3.kd with h | h | h <;> omega)
   refine ⟨M, j2, ar2, ?_, ?_, b3, by have := a3.sz; rw [List.length_cons]; omega, b5⟩
   ·unfold leftHandS.linkL
    rw [PM.go hp, if_neg (by rw [a1]; decide), PM.go a2, if_pos rfl]
    exact b1
   ·rw [b2, a3.bare]
    unfold lkN
    rw [List.any_cons, decide_eq_false (show ¬ 3 ≤ k by omega), Bool.false_or]
    rfl
  ·obtain ⟨a1, _⟩ := opt_any (m := m) (ar := ar) f n (by omega) r1 hv h0 h1
   obtain ⟨M, j2, ar2, b1, b2, b3, b4⟩ := chain_lk (m := m) he f h0 h1 (k :: l) i ar v (Zs i v 1 1 ne ar) n (f + 13) (by rw [List.length_cons]; omega) hr0 hv (peek_old (by decide)) hn
   refine ⟨.mk 40 ⟨#[]⟩ [M] M.from' j2, j2, ar2, ?_, ?_, ?_, ?_, ?_⟩
   ·unfold leftHandS.linkL
    rw [PM.go hp, if_pos a1, if_neg (by rintro ⟨h, _⟩; exact hk h), if_neg (by rw [bareNew_no hk]; decide)]
    exact b1
   ·rw [bare_one (by decide), b2]
    unfold lkN
    rw [List.any_cons, decide_eq_true (show 3 ≤ k by omega), Bool.true_or, if_pos rfl]
   ·rw [noProp, noProps, noProps, b3]; rfl
   ·rw [ndSize, ndSizes, ndSizes]; omega
   ·show (40 : Int) ≠ 22
    decide
end
theorem expr_lk {s : ByteArray} (F : Nat) (l : List Nat) (v : Tk) (hv : Nm v) (h2 : Sees s 2 0 v) (hr : LkR s (endT s.size) v.till l) (hl : l.length ≤ 40) :
  ∃ n q, exprQ s false (F + 70) = .ok n q ∧ bareNd n = lkN (.mk 1 v.text [] 0 0) l ∧ ndSize n ≤ 122 := by
 have hend := end_stp s.size
 obtain ⟨w, w1⟩ := hr.head
 have har : punctT w ⟨#[61, 62]⟩ = false := by
  cases l with
  | nil => obtain rfl := w1.uniq hr; rfl
  | cons k l =>
   obtain ⟨j, r1, _⟩ := hr
   match k, r1 with
   | 0, ⟨d, h, h2, _⟩ => obtain rfl := w1.uniq h; exact punct_text h2 (by decide)
   | 1, ⟨d, _, _, h, h2, _⟩ => obtain rfl := w1.uniq h; exact punct_text h2 (by decide)
   | 2, ⟨d, _, _, h, h2, _⟩ => obtain rfl := w1.uniq h; exact punct_text h2 (by decide)
   | 3, ⟨d, h, h2, _⟩ =>
    obtain rfl := w1.uniq h
    unfold punctT at h2 ⊢
    rw [Bool.and_eq_true, decide_eq_true_eq, decide_eq_true_eq] at h2
    rw [h2.2]; simp
   | 4, ⟨d, h, h2, _⟩ =>
    obtain rfl := w1.uniq h
    unfold punctT at h2 ⊢
    rw [Bool.and_eq_true, decide_eq_true_eq, decide_eq_true_eq] at h2
    rw [h2.2]; simp
   | _ + 5, ⟨d, h, h2, _⟩ =>
    obtain rfl := w1.uniq h
    unfold punctT at h2 ⊢
    rw [Bool.and_eq_true, decide_eq_true_eq, decide_eq_true_eq] at h2
    rw [h2.2]; simp
 obtain ⟨n, j, ar2, c1, c2, c3, c4, c5⟩ := left_lk (s := s) (m := false) (ne := 1) hend.e (F + 49) (by decide) (by decide) l v.till v.from' w (Zs v.till v 0 1 1 v.from') (leafN 1 v) (F + 63) (by omega) (by omega) hr w1 (peek_new w1) rfl (by show (1 : Int) ≠ 37; decide) (by show (1 : Int) ≠ 22; decide)
 have hleft : runQ s false (F + 64) .leftHand (Zs 0 v 2 1 1 v.from') = .ok n (Zs j (endT s.size) 1 1 1 ar2) := by
  show leftHandS s (F + 63) (runQ s false (F + 63)) _ = _
  unfold leftHandS
  rw [PM.go (show peekP s 2 (Zs 0 v 2 1 1 v.from') = .ok v (Zs 0 v 2 1 1 v.from') from peek_old (by decide)), PM.go (get_z _)]
  show (runQ s false (F + 63) (.base v true) >>= _) _ = _
  rw [PM.go (base_z (F + 60) hv (.inr rfl) true), if_neg (leaf_k v), if_neg (by rw [show decide ((leafN 1 v).text = ⟨#[97, 115, 121, 110, 99]⟩) = false from decide_eq_false hv.asy]; simp)]
  exact c1
 have hun : runQ s false (F + 65) .unary (Zs 0 v 2 1 1 v.from') = .ok n (Zs j (endT s.size) 1 1 1 ar2) := by
  show unaryS s (runQ s false (F + 64)) _ = _
  unfold unaryS
  rw [PM.go (show peekP s 2 (Zs 0 v 2 1 1 v.from') = .ok v (Zs 0 v 2 1 1 v.from') from peek_old (by decide)), if_neg (by rw [hv.nameT (by decide), hv.nameT (by decide), hv.nameT (by decide), hv.punctT, hv.punctT, hv.punctT, hv.punctT]; decide), PM.go (get_z _), if_neg (by rw [nameT_ne hv.aw]; simp), if_neg (by rw [hv.punctT, hv.punctT]; decide), PM.go hleft, if_neg c5, PM.go (peek_old (by decide)), if_neg (by rw [hend.e.inc, hend.e.dec]; simp)]
  rfl
 have hop : runQ s false (F + 66) (.operand 1) (Zs 0 v 2 1 1 v.from') = .ok n (Zs j (endT s.size) 1 1 1 ar2) := (operand_any (f := F + 65) 1 (peek_old (by decide)) (by rw [hv.kind]; decide)).trans hun
 have h3 : runQ s false (F + 68) .cond (Zs 0 v 2 1 1 v.from') = .ok n (Zs j (endT s.size) 1 1 1 ar2) := cond_z (f := F + 67) (bin_end (f := F + 65) hop c5 hend) c5 (show punctT (endT s.size) ⟨#[63]⟩ = false from rfl)
 have h4 := assigned_z (s := s) (m := false) (f := F + 67) (i := j) (fl := 1) (ne := 1) (ar := ar2) (u := endT s.size) (n := n) c5 rfl
 have hp1 : peekP s 2 (Zs 0 Tk.zero 0 1 0 (-1)) = _ := peek_new h2
 have h5 := assign_any (m := false) (ne := 0) (i := 0) (g := 2) (fl := 1) (ar := -1) (f := F + 68) (n := n) (n2 := n) (i' := j) (i2 := j) (g' := 1) (g2 := 1) (fl' := 1) (fl2 := 1) (ar' := ar2) (ar2 := ar2) (u' := endT s.size) (u2 := endT s.size) (nameT_ne (hv.ne (by decide))) (nameT_ne hv.asy) hp1 w1 har (by decide) (by decide) (by rw [Int.zero_add]; exact h3) (by rw [Int.zero_add]; exact h4)
 have hz : ndSize (leafN 1 v) = 1 := rfl
 exact ⟨n, _, expr_z (m := false) (expression_z h5 rfl) rfl c3 (by omega), by rw [c2, bare_id], by omega⟩
end
section
open Go.RowKit
def lkS (k : Nat) : List UInt8 := match k with
 | 0 => [46, 109]
 | 1 => [40, 97, 41]
 | 2 => [91, 105, 93]
 | 3 => [63, 46, 109]
 | 4 => [63, 46, 40, 97, 41]
 | _ => [63, 46, 91, 105, 93]
def lkT : List Nat → List UInt8
 | [] => []
 | k :: l => lkS k ++ lkT l
theorem goes_no {c : UInt8} (l : List UInt8) (h : c = 46 ∨ c = 40 ∨ c = 91 ∨ c = 63 ∨ c = 41 ∨ c = 93) : goesP false (c :: l) = false ∧ 0 ≤ (nx (c :: l)).2 := by
 have key : ∀ d : UInt8, d.toNat < 128 → partC (((d).toNat : Nat) : Int) = false → goesP false (d :: l) = false ∧ 0 ≤ (nx (d :: l)).2 := by
  intro d h1 h2
  refine ⟨?_, by rw [nx_ascii _ _ h1]; exact (show (0 : Int) ≤ 1 by decide)⟩
  unfold goesP
  rw [nx_ascii _ _ h1]
  simp only [h2, Bool.false_and, Bool.or_false, Bool.and_false]
 rcases h with rfl | rfl | rfl | rfl | rfl | rfl <;> exact key _ (by decide) (by kernel_rfl)
theorem lkT_next : ∀ l : List Nat, goesP false (lkT l) = false ∧ 0 ≤ (nx (lkT l)).2
 | [] => ⟨rfl, by decide⟩
 | 0 :: l => goes_no _ (.inl rfl)
 | 1 :: l => goes_no _ (.inr (.inl rfl))
 | 2 :: l => goes_no _ (.inr (.inr (.inl rfl)))
 | 3 :: l => goes_no _ (.inr (.inr (.inr (.inl rfl))))
 | 4 :: l => goes_no _ (.inr (.inr (.inr (.inl rfl))))
 | (k + 5) :: l => goes_no _ (.inr (.inr (.inr (.inl rfl))))
theorem nm_i : Nm ⟨1, ⟨#[105]⟩, 0, 0, false⟩ := ⟨rfl, by decide, by decide, by decide, rfl⟩
section
variable {s : ByteArray} {p : Nat} {l : List UInt8}
theorem sees_mark {c : UInt8} {g : Int} (hg : g = 1 ∨ g = 2) (hd : s.data.toList.drop p = c :: l) (hm : markC c = true) (h47 : c ≠ 47) (h1 : 33 ≤ c.toNat) (h2 : c.toNat < 127) (h4 : c ≠ 35) (hp : pct g (c :: l) = 1) : Sees s g p ⟨5, ⟨#[c]⟩, (p : Int), ((p + 1 : Nat) : Int), false⟩ :=
 sees_adj hg (a := [c]) (l := l) hd (Nat.le_of_lt (tx_lt hd)) (ink0_of h1 h2 h47 h4) (plain_markg hm h47 hp (show (1 : Nat) ≠ 0 by decide))
theorem cls_of {c : UInt8} (h : c = 41 ∨ c = 93) (a b : Int) : Cls ⟨5, ⟨#[c]⟩, a, b, false⟩ := by
 rcases h with rfl | rfl <;> exact ⟨⟨.inr rfl, ⟨rfl, rfl, rfl, rfl, (show ¬ (5 : Int) = 7 by decide), (show ¬ (5 : Int) = 8 by decide), rfl, rfl⟩⟩, rfl, rfl, rfl, rfl⟩
theorem lk_m (hd : s.data.toList.drop p = 109 :: l) (hl : goesP false l = false ∧ 0 ≤ (nx l).2) : LkM s p ((p + 1 : Nat) : Int) :=
 ⟨⟨1, ⟨#[109]⟩, (p : Int), ((p + 1 : Nat) : Int), false⟩, sees_adj (.inl rfl) (a := [109]) (l := l) hd (Nat.le_of_lt (tx_lt hd)) (ink0_of (by decide) (by decide) (by decide) (by decide)) (plain_word (a := []) (by decide) (low_start (by decide)) (fun x hx => by cases hx) hl.1 hl.2), rfl, rfl, rfl⟩
theorem lk_in {x y z : UInt8} (hx : x = 40 ∨ x = 91) (hz : z = 41 ∨ z = 93) (hy : low y) (hw : Nm ⟨1, ⟨#[y]⟩, 0, 0, false⟩) (hd : s.data.toList.drop p = x :: y :: z :: l) :
  ∃ o a c : Tk, Sees s 1 p o ∧ punctT o ⟨#[x]⟩ = true ∧ Nm a ∧ a.text = ⟨#[y]⟩ ∧ Sees s 2 o.till a ∧ Sees s 1 a.till c ∧ punctT c ⟨#[z]⟩ = true ∧ Cls c ∧ c.till = ((p + 3 : Nat) : Int) := by
 have h1 := tx_next hd
 have h2 := tx_next h1
 have p1 : ∀ {g : Int} (m : List UInt8), (x = 40 ∨ x = 91) → pct g (x :: m) = 1 := by
  rintro g m (rfl | rfl) <;> exact (pct_no (by decide)).trans rfl
 have p2 : ∀ {g : Int} (m : List UInt8), (z = 41 ∨ z = 93) → pct g (z :: m) = 1 := by
  rintro g m (rfl | rfl) <;> exact (pct_no (by decide)).trans rfl
 have s1 : Sees s 1 p ⟨5, ⟨#[x]⟩, (p : Int), ((p + 1 : Nat) : Int), false⟩ := by
  refine sees_mark (.inl rfl) hd ?_ ?_ ?_ ?_ ?_ (p1 _ hx) <;> (rcases hx with rfl | rfl <;> decide)
 have g1 := goes_no (c := z) l (by rcases hz with rfl | rfl; exact .inr (.inr (.inr (.inr (.inl rfl)))); exact .inr (.inr (.inr (.inr (.inr rfl)))))
 have hy1 := hy.1
 have hy2 := hy.2
 have s2 : Sees s 2 ((p + 1 : Nat) : Int) ⟨1, ⟨#[y]⟩, ((p + 1 : Nat) : Int), ((p + 1 + 1 : Nat) : Int), false⟩ := sees_adj (.inr rfl) (a := [y]) (l := z :: l) h1 (tx_lt hd) (ink0_of (by omega) (by omega) (by rintro rfl; simp at hy1) (by rintro rfl; simp at hy1)) (plain_word (a := []) hy (low_start hy) (fun x hx => by cases hx) g1.1 g1.2)
 have s3 : Sees s 1 ((p + 1 + 1 : Nat) : Int) ⟨5, ⟨#[z]⟩, ((p + 1 + 1 : Nat) : Int), ((p + 1 + 1 + 1 : Nat) : Int), false⟩ := by
  refine sees_mark (.inl rfl) h2 ?_ ?_ ?_ ?_ ?_ (p2 _ hz) <;> (rcases hz with rfl | rfl <;> decide)
 exact ⟨_, ⟨1, ⟨#[y]⟩, ((p + 1 : Nat) : Int), ((p + 1 + 1 : Nat) : Int), false⟩, _, s1, by rcases hx with rfl | rfl <;> rfl, ⟨hw.kind, hw.res, hw.aw, hw.asy, hw.sl⟩, rfl, s2, s3, by rcases hz with rfl | rfl <;> rfl, cls_of hz _ _, rfl⟩
theorem opt_mark {c : UInt8} (hc : c = 109 ∨ c = 40 ∨ c = 91) (hd : s.data.toList.drop p = 63 :: 46 :: c :: l) : Sees s 1 p ⟨5, ⟨#[63, 46]⟩, (p : Int), ((p + 2 : Nat) : Int), false⟩ := by
 have hp : pct 1 (63 :: 46 :: c :: l) = 2 := by rcases hc with rfl | rfl | rfl <;> exact (pct_no (by decide)).trans rfl
 exact sees_adj (.inl rfl) (a := [63, 46]) (l := c :: l) hd (Nat.le_of_lt (tx_lt hd)) (ink0_of (by decide) (by decide) (by decide) (by decide)) (plain_markg (by decide) (by decide) hp (by decide))
theorem lk_item (k : Nat) (ks : List Nat) (hd : s.data.toList.drop p = lkS k ++ lkT ks) : LkI s p k ((p + (lkS k).length : Nat) : Int) := by
 have hn := lkT_next ks
 match k, hd with
 | 0, hd =>
  have h1 : s.data.toList.drop p = 46 :: 109 :: lkT ks := hd
  exact ⟨⟨5, ⟨#[46]⟩, (p : Int), ((p + 1 : Nat) : Int), false⟩, sees_adj (.inl rfl) (a := [46]) (l := 109 :: lkT ks) h1 (Nat.le_of_lt (tx_lt h1)) (ink0_of (by decide) (by decide) (by decide) (by decide)) (plain_dot (by decide)), rfl, lk_m (tx_next h1) hn⟩
 | 1, hd => exact lk_in (l := lkT ks) (.inl rfl) (.inl rfl) (by decide) nm_a hd
 | 2, hd => exact lk_in (l := lkT ks) (.inr rfl) (.inr rfl) (by decide) nm_i hd
 | 3, hd => exact ⟨_, opt_mark (c := 109) (l := lkT ks) (.inl rfl) hd, rfl, lk_m (tx_next (tx_next (show s.data.toList.drop p = 63 :: 46 :: 109 :: lkT ks from hd))) hn⟩
 | 4, hd => exact ⟨_, opt_mark (c := 40) (l := 97 :: 41 :: lkT ks) (.inr (.inl rfl)) hd, rfl, lk_in (l := lkT ks) (.inl rfl) (.inl rfl) (by decide) nm_a (tx_next (tx_next (show s.data.toList.drop p = 63 :: 46 :: 40 :: 97 :: 41 :: lkT ks from hd)))⟩
 | k + 5, hd => exact ⟨_, opt_mark (c := 91) (l := 105 :: 93 :: lkT ks) (.inr (.inr rfl)) hd, rfl, lk_in (l := lkT ks) (.inr rfl) (.inr rfl) (by decide) nm_i (tx_next (tx_next (show s.data.toList.drop p = 63 :: 46 :: 91 :: 105 :: 93 :: lkT ks from hd)))⟩
end
theorem lk_sees {s : ByteArray} : ∀ (ks : List Nat) (p : Nat), s.data.toList.drop p = lkT ks → p ≤ s.size → LkR s (endT s.size) p ks
 | [], p, hd, hp => by
  have e : p = s.size := by
   have h := congrArg List.length hd
   rw [List.length_drop, lkT, List.length_nil] at h
   have h2 : s.data.toList.length = s.size := Array.length_toList
   omega
  subst e
  exact sees_end (.inl rfl) hd hp
 | k :: ks, p, hd, hp => by
  have hd2 : s.data.toList.drop p = lkS k ++ lkT ks := hd
  exact ⟨_, lk_item k ks hd2, lk_sees ks _ (tx_app hd2) (tx_fits hd2 hp)⟩
theorem links_is {s : ByteArray} (ks : List Nat) (hl : ks.length ≤ 40) (hs : s.data.toList = 118 :: lkT ks) : ∃ n q, exprQ s false (0 + 70) = .ok n q ∧ bareNd n = lkN (idN 118) ks ∧ ndSize n ≤ 122 := by
 have hd : s.data.toList.drop 0 = 118 :: lkT ks := hs
 have hn := lkT_next ks
 obtain ⟨q, v, q1, q2, q3, q4, q5, q6⟩ := sees_nm (by decide) nm_v (.inl hd) (Nat.zero_le _) hn.1 hn.2
 have h := lk_sees ks q q2 q1
 rw [← q3] at h
 have h3 := expr_lk 0 ks v q4 (q6 2 (.inr rfl)) h hl
 rw [q5] at h3
 exact h3
end
section
open Go.RowKit
theorem lkT_snoc : ∀ (ks : List Nat) (k : Nat), lkT (ks ++ [k]) = lkT ks ++ lkS k
 | [], k => by show lkS k ++ [] = [] ++ lkS k; rw [List.append_nil, List.nil_append]
 | x :: ks, k => by rw [List.cons_append, lkT, lkT_snoc ks k, lkT, List.append_assoc]
theorem lkF_snoc (n : Nd) (ks : List Nat) (k : Nat) : lkF n (ks ++ [k]) = lkW (lkF n ks) k := by unfold lkF; rw [List.foldl_append]; rfl
theorem lkS_len (k : Nat) : (lkS k).length ≤ 5 := by unfold lkS; split <;> decide
theorem lkT_len : ∀ ks : List Nat, (lkT ks).length ≤ 5 * ks.length
 | [] => Nat.le_refl _
 | k :: ks => by have h1 := lkT_len ks; have h2 := lkS_len k; rw [lkT, List.length_append, List.length_cons]; omega
theorem lk_mem {ks : List Nat} {k : Nat} (h : ∀ x ∈ ks, x < 6) (hk : k < 6) : ∀ x ∈ ks ++ [k], x < 6 := by
 intro x hx
 rcases List.mem_append.1 hx with hx | hx
 ·exact h x hx
 ·rw [List.mem_singleton.1 hx]; exact hk
theorem lk_txt {S X : ByteArray} {ks : List Nat} {k : Nat} (h : S.data.toList = 118 :: lkT ks) (hX : X.data.toList = S.data.toList ++ lkS k) : X.data.toList = 118 :: lkT (ks ++ [k]) := by
 rw [hX, h, lkT_snoc]
 rfl
def lkB (ks : List Nat) : Bool := ks.any fun k => decide (3 ≤ k)
theorem lk_any {ks : List Nat} {k : Nat} {c c' : Bool} (h : lkB ks = c) (hc : c' = (c || decide (3 ≤ k))) : lkB (ks ++ [k]) = c' := by
 rw [hc, ← h]
 unfold lkB
 rw [List.any_append, List.any_cons, List.any_nil, Bool.or_false]
theorem two_ok {w : World} {r : Nat} {n : Nd} {b : Option Addr} {c : Nat} {x : UInt8} (h : WBox w r n b c) : ∀ y ∈ ([(n, b, c), (idN x, none, 0)] : List Kd), y.1.kids.length ≤ y.2.2 ∧ RowA w r w.heap.size y.1.kids y.2.1 := by
 intro y hy
 simp only [List.mem_cons, List.not_mem_nil, or_false] at hy
 rcases hy with rfl | rfl
 ·exact ⟨h.cap, h.row⟩
 ·exact ⟨Nat.le_refl _, RowA.nil _ _ _ _⟩
theorem call_ok {w : World} {r : Nat} {n : Nd} {b : Option Addr} {c : Nat} (h : WBox w r n b c) : ∀ y ∈ ([(n, b, c), (.mk 36 ⟨#[]⟩ [idN 97] 0 0, some ⟨w.heap.size, 0, none⟩, 1)] : List Kd),
  y.1.kids.length ≤ y.2.2 ∧ RowA (w.alloc (.cells (([(idN 97, none, 0)] : List Kd).flatMap cells5).toArray 31)) r (w.alloc (.cells (([(idN 97, none, 0)] : List Kd).flatMap cells5).toArray 31)).heap.size y.1.kids y.2.1 := by
 intro y hy
 have hlt := h.box.lt
 simp only [List.mem_cons, List.not_mem_nil, or_false] at hy
 rcases hy with rfl | rfl
 ·exact ⟨h.cap, h.row.bel (fun k hk _ => Below.heap_alloc _ _ _ hk) (by rw [World.size_alloc]; omega)⟩
 ·refine ⟨Nat.le_refl _, ?_⟩
  rw [World.size_alloc]
  exact RowA.new (w := w) (T := 31) [(idN 97, none, 0)] (fun x hx => by rw [List.mem_singleton.1 hx]; exact ⟨Nat.le_refl _, RowA.nil _ _ _ _⟩) (by omega) (heap_alloc_new _ _) fun k hk _ => Below.heap_alloc _ _ _ hk
theorem WSt.eq {w0 W W' : World} {r : Nat} {n : Nd} (h : WSt w0 r n W) (e : W = W') : WSt w0 r n W' := e ▸ h
def LkRel (w : World) (r len : Nat) (s c i : Value) (wr : World) : Prop := ∃ (j : Nat) (ks : List Nat) (S : ByteArray) (cb : Bool), j ≤ len ∧ j ≤ 40 ∧ ks.length = j ∧ (∀ x ∈ ks, x < 6) ∧ i = .int .i64 j ∧ s = .string S ∧ c = .bool cb ∧ S.data.toList = 118 :: lkT ks ∧ lkB ks = cb ∧ WSt w r (lkF (idN 118) ks) wr
set_option maxRecDepth 100000 in
set_option maxHeartbeats 16000000 in
theorem links_any (ao : Option Addr) (len cap : Nat) (w : World) (hc : IntsArg w ao len) (hl : len ≤ 33554432) (hx : Lx w) :
  Calls Tryz.prog 6 #[.slice ao len cap] w fun e w' => e = .returned (.bool true) ∧ Below w.heap.size w w' := by
 have HC := Lib.hid hc
 have HX := Lib.hid hx
 clear hc hx
 go_enter Tryz.func6, Tryz.ntmps6
 go_wp2_with fail
 refine (awake_any w HX.out).mono ?_
 rintro e w1 ⟨rfl, hb1⟩
 go_wp2_with fail
 refine (ident_any _ _).mono ?_
 rintro e w4 ⟨rfl, hb4⟩
 have hb5 := bel_next hb1 hb4
 clear hb1 hb4
 go_upto_region 5 with fail
 have hs : WSt w w4.heap.size (lkF (idN 118) []) (w4.alloc (.cells #[.int .i64 1, .string ⟨#[118]⟩, .slice none 0 0, .int .i64 0, .int .i64 0] 31)) := WSt.leaf hb5 ⟨#[118]⟩
 have HS := Lib.hid hs
 generalize World.alloc w4 _ = w5 at *
 generalize w4.heap.size = r at *
 clear hb5 hs
 go_wp2_with fail
 go_loopw [3, 5, 6, 7, 8, 9, 46, 59] (fun s c i _ _ _ _ _ wr => LkRel w r len s c i wr) (fun _ _ i _ _ _ _ _ _ => 40 - (intOf i).toNat)
 case atStart => exact ⟨0, [], ⟨#[118]⟩, false, Nat.zero_le _, Nat.zero_le _, rfl, (fun _ h => by cases h), rfl, rfl, rfl, rfl, rfl, HS.out⟩
 case round =>
  clear HS
  obtain ⟨j, ks, S, cb, hj, hj40, hoj, hm, rfl, rfl, rfl, hS, hcb, hst⟩ := hrel
  have hSs : S.size ≤ 300 := by rw [ba_size hS]; have := lkT_len ks; rw [List.length_cons]; omega
  have HST := Lib.hid hst
  have HS := Lib.hid hS
  have HM := Lib.hid hm
  have HA := Lib.hid hcb
  obtain ⟨wb, wc, hbx⟩ := hst.ex
  have HB := Lib.hid hbx
  have hrl := hbx.box.lt
  by_cases hlt : j < len ∧ j < 40
  ·obtain ⟨hlt, hlt40⟩ := hlt
   obtain ⟨b, off, rfl, hb, z, hz⟩ := HC.out j hlt
   rw [← hst.bel.cell (p := ⟨b, off + j, none⟩) hb] at hz
   obtain ⟨a, ha, ha2⟩ := pickN z 7 (by decide)
   replace ha : (IntKind.u64.wrap z).tmod 7 = (a : Int) := ha
   obtain ⟨n, hn⟩ : ∃ n, lkF (idN 118) ks = n := ⟨_, rfl⟩
   rw [hn] at HST HB
   have HN := Lib.hid hn
   clear hst hS hm hcb hbx hn
   have h7 : a = 0 ∨ a = 1 ∨ a = 2 ∨ a = 3 ∨ a = 4 ∨ a = 5 ∨ a = 6 := by omega
   rcases h7 with h | h | h | h | h | h | h
   ·have ha' : (IntKind.u64.wrap z).tmod 7 = 0 := by rw [ha, h]; rfl
    clear ha h ha2
    go_upto_region 22 with fail
    have HD := Lib.hid (HST.out.next (Below.drew (Below.refl _ _)))
    have HBD := Lib.hid (HB.out.bel (Below.drew (Below.refl _ _)))
    obtain ⟨x0, x1, x2, x3, x4, y0, y1, y2, y3, y4⟩ := NdBoxV.facts HBD.out.box
    clear HB HST hz
    go_region_with (go_at_call 13; refine (ident_any _ _).mono ?_; rintro e w9 ⟨rfl, hb9⟩; replace HD := Lib.hid (HD.out.next hb9); replace HBD := Lib.hid (HBD.out.bel hb9); have hrl9 := HBD.out.box.lt; clear hb9 x0 x1 x2 x3 x4 y0 y1 y2 y3 y4; obtain ⟨x0, x1, x2, x3, x4, y0, y1, y2, y3, y4⟩ := NdBoxV.facts HBD.out.box)
    all_goals
     go_wp2_with fail
     go_roundw
     case rel => exact ⟨j + 1, ks ++ [0], _, _, hlt, by omega, by simp [hoj], lk_mem HM.out (by decide), by go_num, rfl, rfl, lk_txt HS.out (by simp [ByteArray.data_append, lkS]), lk_any HA.out (by simp), (by rw [lkF_snoc, HN.out]; exact HD.out.over2 HBD.out (ns := [(n, wb, wc), (idN 109, none, 0)]) (two_ok HBD.out) 38 ⟨#[]⟩ rfl)⟩
     case measure => simp [intOf]; omega
   ·have ha' : (IntKind.u64.wrap z).tmod 7 = 1 := by rw [ha, h]; rfl
    clear ha h ha2
    go_upto_region 25 with fail
    have HD := Lib.hid (HST.out.next (Below.drew (Below.refl _ _)))
    have HBD := Lib.hid (HB.out.bel (Below.drew (Below.refl _ _)))
    obtain ⟨x0, x1, x2, x3, x4, y0, y1, y2, y3, y4⟩ := NdBoxV.facts HBD.out.box
    clear HB HST hz
    go_region_with (go_at_call 13; refine (ident_any _ _).mono ?_; rintro e w9 ⟨rfl, hb9⟩; replace HD := Lib.hid (HD.out.next hb9); replace HBD := Lib.hid (HBD.out.bel hb9); have hrl9 := HBD.out.box.lt; clear hb9 x0 x1 x2 x3 x4 y0 y1 y2 y3 y4; obtain ⟨x0, x1, x2, x3, x4, y0, y1, y2, y3, y4⟩ := NdBoxV.facts HBD.out.box)
    all_goals
     go_wp2_with fail
     go_roundw
     case rel => exact ⟨j + 1, ks ++ [1], _, _, hlt, by omega, by simp [hoj], lk_mem HM.out (by decide), by go_num, rfl, rfl, lk_txt HS.out (by simp [ByteArray.data_append, lkS]), lk_any HA.out (by simp), (by rw [lkF_snoc, HN.out]; exact HD.out.over3 _ HBD.out (ns := [(n, wb, wc), (.mk 36 ⟨#[]⟩ [idN 97] 0 0, some ⟨_, 0, none⟩, 1)]) (call_ok HBD.out) 35 ⟨#[]⟩ rfl)⟩
     case measure => simp [intOf]; omega
   ·have ha' : (IntKind.u64.wrap z).tmod 7 = 2 := by rw [ha, h]; rfl
    clear ha h ha2
    go_upto_region 16 with fail
    have HD := Lib.hid (HST.out.next (Below.drew (Below.refl _ _)))
    have HBD := Lib.hid (HB.out.bel (Below.drew (Below.refl _ _)))
    obtain ⟨x0, x1, x2, x3, x4, y0, y1, y2, y3, y4⟩ := NdBoxV.facts HBD.out.box
    clear HB HST hz
    go_region_with (go_at_call 13; refine (ident_any _ _).mono ?_; rintro e w9 ⟨rfl, hb9⟩; replace HD := Lib.hid (HD.out.next hb9); replace HBD := Lib.hid (HBD.out.bel hb9); have hrl9 := HBD.out.box.lt; clear hb9 x0 x1 x2 x3 x4 y0 y1 y2 y3 y4; obtain ⟨x0, x1, x2, x3, x4, y0, y1, y2, y3, y4⟩ := NdBoxV.facts HBD.out.box)
    all_goals
     go_wp2_with fail
     go_roundw
     case rel => exact ⟨j + 1, ks ++ [2], _, _, hlt, by omega, by simp [hoj], lk_mem HM.out (by decide), by go_num, rfl, rfl, lk_txt HS.out (by simp [ByteArray.data_append, lkS]), lk_any HA.out (by simp), (by rw [lkF_snoc, HN.out]; exact HD.out.over2 HBD.out (ns := [(n, wb, wc), (idN 105, none, 0)]) (two_ok HBD.out) 39 ⟨#[]⟩ rfl)⟩
     case measure => simp [intOf]; omega
   ·have ha' : (IntKind.u64.wrap z).tmod 7 = 3 := by rw [ha, h]; rfl
    clear ha h ha2
    go_upto_region 22 with fail
    have HD := Lib.hid (HST.out.next (Below.drew (Below.refl _ _)))
    have HBD := Lib.hid (HB.out.bel (Below.drew (Below.refl _ _)))
    obtain ⟨x0, x1, x2, x3, x4, y0, y1, y2, y3, y4⟩ := NdBoxV.facts HBD.out.box
    clear HB HST hz
    go_region_with (go_at_call 13; refine (ident_any _ _).mono ?_; rintro e w9 ⟨rfl, hb9⟩; replace HD := Lib.hid (HD.out.next hb9); replace HBD := Lib.hid (HBD.out.bel hb9); have hrl9 := HBD.out.box.lt; clear hb9 x0 x1 x2 x3 x4 y0 y1 y2 y3 y4; obtain ⟨x0, x1, x2, x3, x4, y0, y1, y2, y3, y4⟩ := NdBoxV.facts HBD.out.box)
    all_goals
     go_wp2_with fail
     go_roundw
     case rel => exact ⟨j + 1, ks ++ [3], _, _, hlt, by omega, by simp [hoj], lk_mem HM.out (by decide), by go_num, rfl, rfl, lk_txt HS.out (by simp [ByteArray.data_append, lkS]), lk_any HA.out (by simp), (by rw [lkF_snoc, HN.out]; exact HD.out.over2 HBD.out (ns := [(n, wb, wc), (idN 109, none, 0)]) (two_ok HBD.out) 38 ⟨#[63, 46]⟩ rfl)⟩
     case measure => simp [intOf]; omega
   ·have ha' : (IntKind.u64.wrap z).tmod 7 = 4 := by rw [ha, h]; rfl
    clear ha h ha2
    go_upto_region 25 with fail
    have HD := Lib.hid (HST.out.next (Below.drew (Below.refl _ _)))
    have HBD := Lib.hid (HB.out.bel (Below.drew (Below.refl _ _)))
    obtain ⟨x0, x1, x2, x3, x4, y0, y1, y2, y3, y4⟩ := NdBoxV.facts HBD.out.box
    clear HB HST hz
    go_region_with (go_at_call 13; refine (ident_any _ _).mono ?_; rintro e w9 ⟨rfl, hb9⟩; replace HD := Lib.hid (HD.out.next hb9); replace HBD := Lib.hid (HBD.out.bel hb9); have hrl9 := HBD.out.box.lt; clear hb9 x0 x1 x2 x3 x4 y0 y1 y2 y3 y4; obtain ⟨x0, x1, x2, x3, x4, y0, y1, y2, y3, y4⟩ := NdBoxV.facts HBD.out.box)
    all_goals
     go_wp2_with fail
     go_roundw
     case rel => exact ⟨j + 1, ks ++ [4], _, _, hlt, by omega, by simp [hoj], lk_mem HM.out (by decide), by go_num, rfl, rfl, lk_txt HS.out (by simp [ByteArray.data_append, lkS]), lk_any HA.out (by simp), (by rw [lkF_snoc, HN.out]; exact HD.out.over3 _ HBD.out (ns := [(n, wb, wc), (.mk 36 ⟨#[]⟩ [idN 97] 0 0, some ⟨_, 0, none⟩, 1)]) (call_ok HBD.out) 35 ⟨#[63, 46]⟩ rfl)⟩
     case measure => simp [intOf]; omega
   ·have ha' : (IntKind.u64.wrap z).tmod 7 = 5 := by rw [ha, h]; rfl
    clear ha h ha2
    go_upto_region 16 with fail
    have HD := Lib.hid (HST.out.next (Below.drew (Below.refl _ _)))
    have HBD := Lib.hid (HB.out.bel (Below.drew (Below.refl _ _)))
    obtain ⟨x0, x1, x2, x3, x4, y0, y1, y2, y3, y4⟩ := NdBoxV.facts HBD.out.box
    clear HB HST hz
    go_region_with (go_at_call 13; refine (ident_any _ _).mono ?_; rintro e w9 ⟨rfl, hb9⟩; replace HD := Lib.hid (HD.out.next hb9); replace HBD := Lib.hid (HBD.out.bel hb9); have hrl9 := HBD.out.box.lt; clear hb9 x0 x1 x2 x3 x4 y0 y1 y2 y3 y4; obtain ⟨x0, x1, x2, x3, x4, y0, y1, y2, y3, y4⟩ := NdBoxV.facts HBD.out.box)
    all_goals
     go_wp2_with fail
     go_roundw
     case rel => exact ⟨j + 1, ks ++ [5], _, _, hlt, by omega, by simp [hoj], lk_mem HM.out (by decide), by go_num, rfl, rfl, lk_txt HS.out (by simp [ByteArray.data_append, lkS]), lk_any HA.out (by simp), (by rw [lkF_snoc, HN.out]; exact HD.out.over2 HBD.out (ns := [(n, wb, wc), (idN 105, none, 0)]) (two_ok HBD.out) 39 ⟨#[63, 46]⟩ rfl)⟩
     case measure => simp [intOf]; omega
   ·have ha' : (IntKind.u64.wrap z).tmod 7 = 6 := by rw [ha, h]; rfl
    clear ha h ha2
    go_upto_region 22 with fail
    have HD := Lib.hid (HST.out.next (Below.drew (Below.refl _ _)))
    have HBD := Lib.hid (HB.out.bel (Below.drew (Below.refl _ _)))
    obtain ⟨x0, x1, x2, x3, x4, y0, y1, y2, y3, y4⟩ := NdBoxV.facts HBD.out.box
    clear HB HST hz
    go_region_with (go_at_call 13; refine (ident_any _ _).mono ?_; rintro e w9 ⟨rfl, hb9⟩; replace HD := Lib.hid (HD.out.next hb9); replace HBD := Lib.hid (HBD.out.bel hb9); have hrl9 := HBD.out.box.lt; clear hb9 x0 x1 x2 x3 x4 y0 y1 y2 y3 y4; obtain ⟨x0, x1, x2, x3, x4, y0, y1, y2, y3, y4⟩ := NdBoxV.facts HBD.out.box)
    all_goals
     go_wp2_with fail
     go_roundw
     case rel => exact ⟨j + 1, ks ++ [0], _, _, hlt, by omega, by simp [hoj], lk_mem HM.out (by decide), by go_num, rfl, rfl, lk_txt HS.out (by simp [ByteArray.data_append, lkS]), lk_any HA.out (by simp), (by rw [lkF_snoc, HN.out]; exact HD.out.over2 HBD.out (ns := [(n, wb, wc), (idN 109, none, 0)]) (two_ok HBD.out) 38 ⟨#[]⟩ rfl)⟩
     case measure => simp [intOf]; omega
  ·have hend : j = len ∨ (j = 40 ∧ 40 < len) := by omega
   obtain ⟨n, q, hE, hz1, hz2⟩ := links_is ks (by omega) hS
   have hbt := bareT_of (n := n) (by omega)
   have hTrue : sameNd (bareT n) (lkN (idN 118) ks) = true := by rw [hbt, hz1]; exact sameNd_refl _
   obtain ⟨x0, x1, x2, x3, x4, y0, y1, y2, y3, y4⟩ := NdBoxV.facts hbx.box
   have e : lkN (idN 118) ks = if lkB ks = true then .mk 40 ⟨#[]⟩ [lkF (idN 118) ks] 0 0 else lkF (idN 118) ks := rfl
   cases cb
   ·rw [hcb, if_neg (by decide)] at e
    have HI := Lib.hid (fun W hb => same_is (0 + 70) (by decide) (by omega) hE (by omega) (by rw [hbt]; exact Nat.le_trans (bare_size n) (by omega)) (lkF (idN 118) ks) _ 0 wr.heap.size W (NdV_bel hbx.v hb) hb.size (HX.out.bel (bel_next hst.bel hb)))
    rw [e] at hTrue
    rw [hTrue] at HI
    clear hst hS hbx hE hz1 hz2 hbt hTrue HC e hcb hm
    rcases hend with rfl | ⟨rfl, hl40⟩
    all_goals
     go_wp2_with fail
     refine (HI.out _ (Below.refl _ _)).mono ?_
     rintro e w6 ⟨rfl, hb6⟩
     go_wp2_with fail
     go_ret
     exact ⟨rfl, bel_next HST.out.bel hb6⟩
   ·rw [hcb, if_pos rfl] at e
    have hov := HST.out.over2 (T := 31) hbx (ns := [(lkF (idN 118) ks, wb, wc)]) (fun x hx => by rw [List.mem_singleton.1 hx]; exact ⟨hbx.cap, hbx.row⟩) 40 ⟨#[]⟩ rfl
    rw [List.map_cons, List.map_nil, ← e] at hov
    have HO := Lib.hid hov
    have HI := Lib.hid (fun W b c (hb : WBox W r (lkN (idN 118) ks) b c) hl => same_is (0 + 70) (by decide) (by omega) hE (by omega) (by rw [hbt]; exact Nat.le_trans (bare_size n) (by omega)) (lkN (idN 118) ks) _ 0 W.heap.size W hb.v (Nat.le_refl _) (HX.out.bel hl))
    rw [hTrue] at HI
    clear hst hS hE hz1 hz2 hbt hTrue HC hcb hm hov
    generalize lkN (idN 118) ks = N at *
    generalize lkF (idN 118) ks = n0 at *
    clear hbx e
    rcases hend with rfl | ⟨rfl, hl40⟩
    all_goals
     go_upto_region 28 with fail
     generalize hW8 : World.alloc _ _ = w8
     have h8 := WSt.eq HO.out hW8
     obtain ⟨b9, c9, hb9⟩ := h8.ex
     have H8 := Lib.hid h8.bel
     have H9 := Lib.hid hb9
     clear x0 x1 x2 x3 x4 y0 y1 y2 y3 y4 hW8 h8 HO
     obtain ⟨x0, x1, x2, x3, x4, y0, y1, y2, y3, y4⟩ := NdBoxV.facts hb9.box
     clear hb9
     go_wp2_with fail
     refine (HI.out w8 _ _ H9.out H8.out).mono ?_
     rintro e w6 ⟨rfl, hb6⟩
     go_wp2_with fail
     go_ret
     exact ⟨rfl, bel_next H8.out hb6⟩
end
section
theorem upto_mem {H : Type} {d : DataW H} {l : List (DataW H)} (hk : Rows.uptoSmall H l = true) (h : d ∈ l) : Rows.uptoBulk d ≤ 1048576 := by
 have hk' : Rows.uptoBulkAll l ≤ 1048576 := by simpa [Rows.uptoSmall] using hk
 refine Nat.le_trans ?_ hk'
 clear hk hk'
 induction l with
 | nil => cases h
 | cons x r ih =>
  simp only [Rows.uptoBulkAll]
  rcases List.mem_cons.1 h with e | e
  ·subst e; omega
  ·have := ih e; omega
end
end Go.Proofs.YtfnjjgmhjbhclaaGreatDoor
