/- Parts: Trees in plain Lean: what package ast computes of them; and how they lie in memory. | The contract of the reference's Decimal below 100. | Plain: how package parse's reading goes over tokens that have no comments ahead: states, looking, taking. No condition. | Plain: names with operators between are read as the tree that is cut at the loosest one. No condition. | Plain: the tokens of a text of names, marks and blanks, as the parser sees them. No condition. | Plain: a text of names with operators between, as the parser sees its tokens. No condition. | Plain: what Expr reads of a text of names with operators between. No condition. | Contract of the law's split. Conditions: at most 90 names; the operators' row lies in memory. | ParseOperators' function answers true. Conditions: the argument's cells hold ints; what a law leans on. | Plain: what Expr reads of signs ahead of a member. No condition. | Plain: tokens that stand at a place, behind a blank or not. No condition. | Plain: the text of signs ahead of a.b, as the parser sees its tokens; what Expr reads of it. No condition. | ParseSigns' function answers true: signs go from the inside out. Conditions: the argument's cells hold ints; what a law leans on. | What the bound on what a law reads gives. No condition. -/
import Derived.Test.YtfnjjgmhjbhclaaGreatDoorPn01
import Derived.Test.YtfnjjgmhjbhclaaGreatDoorPn02
import Derived.Test.YtfnjjgmhjbhclaaGreatDoorPn03
import Derived.Test.YtfnjjgmhjbhclaaGreatDoorPn04
import Derived.Test.YtfnjjgmhjbhclaaGreatDoorPn05
import Derived.Test.YtfnjjgmhjbhclaaGreatDoorPn06
import Derived.Test.YtfnjjgmhjbhclaaGreatDoorPn07
import Derived.Test.YtfnjjgmhjbhclaaGreatDoorPn08
import Derived.Test.YtfnjjgmhjbhclaaGreatDoorPn09
import Derived.Test.YtfnjjgmhjbhclaaGreatDoorPn10
import Derived.Test.YtfnjjgmhjbhclaaGreatDoorPn11
import Derived.Test.YtfnjjgmhjbhclaaGreatDoorPn12
import Derived.Test.YtfnjjgmhjbhclaaGreatDoorPn13
import Derived.Test.YtfnjjgmhjbhclaaGreatDoorPn14
import Derived.Test.YtfnjjgmhjbhclaaGreatDoorPn15
import Derived.Test.YtfnjjgmhjbhclaaGreatDoorPn16
import Derived.Test.YtfnjjgmhjbhclaaGreatDoorPn17
import Derived.Test.YtfnjjgmhjbhclaaGreatDoorPn18
import Derived.Test.YtfnjjgmhjbhclaaGreatDoorPn19
import Derived.Test.YtfnjjgmhjbhclaaGreatDoorPn20
import Derived.Test.YtfnjjgmhjbhclaaGreatDoorPn21
import Derived.Test.YtfnjjgmhjbhclaaGreatDoorPn22
import Derived.Test.YtfnjjgmhjbhclaaGreatDoorPn23
import Derived.Test.YtfnjjgmhjbhclaaGreatDoorPn24
import Derived.Test.YtfnjjgmhjbhclaaGreatDoorPn25
import Derived.Test.YtfnjjgmhjbhclaaGreatDoorPn26
import Derived.Test.YtfnjjgmhjbhclaaGreatDoorPn27
import Derived.Test.YtfnjjgmhjbhclaaGreatDoorPn29
import Derived.Test.YtfnjjgmhjbhclaaGreatDoorPn30
import Derived.Test.YtfnjjgmhjbhclaaGreatDoorPn32
import Derived.Laws.AppendOwnNone
import Derived.Test.YtfnjjgmhjbhclaaGreatDoorRows
namespace Go.Proofs.YtfnjjgmhjbhclaaGreatDoor
section
open Go.RowKit
theorem sameNd_refl (a : Nd) : sameNd a a = true := by
 induction a using Nd.ind with
 | h n ih => exact (sameNd_iff n n).2 ⟨rfl, rfl, rfl, fun i h _ => ih _ (List.getElem_mem h)⟩
end
section
open Go.RowKit
def dc2 (y : Nat) : List UInt8 := if y = 0 then [] else if y < 10 then [UInt8.ofNat (48 + y)] else [UInt8.ofNat (48 + y / 10), UInt8.ofNat (48 + y % 10)]
def dcl (i : Nat) : List UInt8 := if i = 0 then [48] else dc2 i
theorem dcl_row : ∀ i : Fin 100, (dcl i.val).length ≤ 2 ∧ dcl i.val ≠ [] ∧ ∀ c ∈ dcl i.val, 48 ≤ c.toNat ∧ c.toNat ≤ 57 := by decide +kernel
end
section
open Go.RowKit
def Zs (i : Int) (t : Tk) (g fl ne ar : Int) : Ps := ⟨i, t, [], g, [], fl, ne, ar, []⟩
section
variable {s : ByteArray} {g g' i fl ne ar : Int} {t tk : Tk}
theorem peek_new (h : Sees s g i t) : peekP s g (Zs i tk 0 fl ne ar) = .ok t (Zs i t g fl ne ar) := by
 obtain ⟨h0, h1, q, n, h2, h3⟩ := h
 unfold peekP cachedB Zs
 rw [if_neg (by simp)]
 unfold freshP
 simp only
 rw [if_neg (by omega), h2]
 simp only
 rw [h3]
theorem peek_old (hg : g ≠ 0) : peekP s g (Zs i t g fl ne ar) = .ok t (Zs i t g fl ne ar) := by
 unfold peekP cachedB Zs
 rw [if_pos (by simp [hg])]
theorem peek_12 (h1 : g' ≠ 0) (h2 : g' ≤ 2) (h3 : g ≤ 2) (hs : slashT t = false) : peekP s g (Zs i t g' fl ne ar) = .ok t (Zs i t g' fl ne ar) := by
 unfold slashT at hs
 unfold peekP cachedB Zs
 rw [if_pos (by simp [h1, h2, h3, hs])]
theorem take_z : takeP (Zs i t g fl ne ar) = .ok t (Zs t.till t 0 fl ne ar) := rfl
theorem look_z (h : Sees s 1 i t) (p : Ps) : lookP s i p = .ok t p := by
 obtain ⟨h0, h1, q, n, h2, h3⟩ := h
 unfold lookP lookT
 rw [if_neg (by omega), h2]
 simp only
 rw [h3]
 rfl
theorem is_no {x : ByteArray} (hp : peekP s 1 (Zs i tk g' fl ne ar) = .ok t (Zs i t g fl ne ar)) (h : punctT t x = false) : isP s x (Zs i tk g' fl ne ar) = .ok false (Zs i t g fl ne ar) := by
 unfold isP
 rw [PM.go hp, if_neg (by rw [h]; decide)]
 rfl
end
theorem nameT_ne {t : Tk} {x : ByteArray} (h : t.text ≠ x) : nameT t x = false := by
 unfold nameT
 rw [decide_eq_false h, Bool.and_false]
section
variable {s : ByteArray} {m : Bool} {g i fl ne ar : Int} {t u tk : Tk}
theorem named_z (f : Nat) (h : Nm t) (hg : g = 1 ∨ g = 2) : runQ s m (f + 1) (.named t) (Zs i t g fl ne ar) = .ok (leafN 1 t) (Zs t.till t 0 fl ne ar) := by
 show namedS s m (runQ s m f) t _ = _
 have h1 : oneOf t.text [⟨#[116, 104, 105, 115]⟩, ⟨#[110, 117, 108, 108]⟩, ⟨#[116, 114, 117, 101]⟩, ⟨#[102, 97, 108, 115, 101]⟩] = false := by
  unfold oneOf
  rw [List.any_eq_false]
  intro x hx
  simp only [List.mem_cons, List.not_mem_nil, or_false] at hx
  rcases hx with rfl | rfl | rfl | rfl <;> (rw [decide_eq_false (h.ne (by decide))]; decide)
 unfold namedS
 rw [if_neg (by rw [h1]; decide), if_neg (h.ne (by decide)), if_neg (h.ne (by decide)), if_neg h.asy]
 unfold takeIdentP
 have hp : peekP s 1 (Zs i t g fl ne ar) = .ok t (Zs i t g fl ne ar) := peek_12 (by omega) (by omega) (by omega) h.sl
 rw [PM.go hp]
 show (if identB m fl t then _ else _ : PM Nd) _ = _
 rw [if_pos (h.ident m fl), PM.go take_z]
 rfl
theorem base_z (f : Nat) (h : Nm t) (hg : g = 1 ∨ g = 2) (calls : Bool) : runQ s m (f + 3) (.base t calls) (Zs i t g fl ne ar) = .ok (leafN 1 t) (Zs t.till t 0 fl ne ar) := by
 show baseS s m (runQ s m (f + 2)) t calls _ = _
 unfold baseS
 rw [if_neg (by rw [h.nameT (by decide)]; decide), if_neg (by rw [h.nameT (by decide)]; decide), if_neg (by rw [h.nameT (by decide)]; decide)]
 show primaryS (runQ s m (f + 1)) t _ = _
 have hk := h.kind
 unfold primaryS
 rw [if_neg (by omega), if_neg (by omega), if_neg (by omega), if_pos hk]
 exact named_z f h hg
theorem link_no (f : Nat) (n : Nd) (calls tmpl : Bool) (hu : Endy u) (hp : peekP s 1 (Zs i tk g fl ne ar) = .ok u (Zs i u 1 fl ne ar)) : runQ s m (f + 1) (.link n calls tmpl) (Zs i tk g fl ne ar) = .ok (n, false) (Zs i u 1 fl ne ar) := by
 show linkS s (runQ s m f) n calls tmpl _ = _
 unfold linkS
 rw [PM.go hp, if_neg (by rw [hu.dot]; decide), if_neg (by rw [hu.brk]; decide), if_neg (by rw [hu.par]; simp), if_neg (by have := hu.k7; have := hu.k8; omega)]
 rfl
theorem get_z (p : Ps) : getP p = .ok p p := rfl
theorem peek_self (hg : g = 1 ∨ g = 2) (hs : slashT t = false) {g2 : Int} (h2 : g2 ≤ 2) : peekP s g2 (Zs i t g fl ne ar) = .ok t (Zs i t g fl ne ar) := peek_12 (by omega) (by omega) h2 hs
theorem leaf_k (t : Tk) : ¬ (leafN 1 t).kind = 22 := by
 show ¬ (1 : Int) = 22
 decide
end
end
section
open Go.RowKit
def cutL : Nat → ByteArray → Nat → List ByteArray → Nat
 | c, _, _, [] => c
 | c, b, i, o :: os => if levelB o < levelB b ∨ (levelB o = levelB b ∧ o ≠ ⟨#[42, 42]⟩) then cutL i o (i + 1) os else cutL c b (i + 1) os
def cutN : List ByteArray → Nat
 | [] => 0
 | o :: os => cutL 0 o 1 os
inductive Tree : ByteArray → List (ByteArray × ByteArray) → Nd → Prop
 | nil (v : ByteArray) : Tree v [] (.mk 1 v [] 0 0)
 | cut (v : ByteArray) (pre : List (ByteArray × ByteArray)) (o w : ByteArray) (mid : List (ByteArray × ByteArray)) (a b : Nd) : cutN ((pre ++ (o, w) :: mid).map (·.1)) = pre.length → Tree v pre a → Tree w mid b → Tree v (pre ++ (o, w) :: mid) (.mk 29 o [a, b] 0 0)
theorem Tree.uniq {v : ByteArray} {l : List (ByteArray × ByteArray)} {a : Nd} (h : Tree v l a) : ∀ {b : Nd}, Tree v l b → a = b := by
 induction h with
 | nil v =>
  intro b hb
  generalize hl : ([] : List (ByteArray × ByteArray)) = l at hb
  cases hb with
  | nil => rfl
  | cut => simp at hl
 | cut v pre o w mid a b hc _ _ iha ihb =>
  intro n hn
  generalize hl : pre ++ (o, w) :: mid = l at hn
  cases hn with
  | nil => simp at hl
  | cut _ pre2 o2 w2 mid2 a2 b2 hc2 h1 h2 =>
   rw [hl] at hc
   obtain ⟨e1, e2⟩ := List.append_inj hl (hc.symm.trans hc2)
   injection e2 with e2 e3
   injection e2 with e2 e4
   subst e1 e2 e3 e4
   rw [iha h1, ihb h2]
structure Stp (u : Tk) : Prop where
 op : (decide (u.kind ≠ 5) && !nameT u ⟨#[105, 110, 115, 116, 97, 110, 99, 101, 111, 102]⟩ && !nameT u ⟨#[105, 110]⟩) = true ∨ levelB u.text = 0
 e : Endy u
section
variable {s : ByteArray}
variable {m : Bool}
theorem operator_no {i ne ar : Int} {u : Tk} (h : Stp u) : ∃ r : Tk × Int, r.2 = 0 ∧ operatorP s (Zs i u 1 1 ne ar) = .ok r (Zs i u 1 1 ne ar) := by
 unfold operatorP
 rw [PM.go (peek_old (by decide)), PM.go (get_z _)]
 have h2 : hasF 1 1 = true := by decide
 show ∃ r : Tk × Int, r.2 = 0 ∧ (if (decide (u.kind ≠ 5) && !nameT u ⟨#[105, 110, 115, 116, 97, 110, 99, 101, 111, 102]⟩ && (!nameT u ⟨#[105, 110]⟩ || !hasF 1 1)) = true then _ else _ : PM (Tk × Int)) _ = _
 rw [h2, Bool.not_true, Bool.or_false]
 rcases h.op with h1 | h1
 ·rw [if_pos h1]
  exact ⟨_, rfl, rfl⟩
 ·split
  ·exact ⟨_, rfl, rfl⟩
  ·exact ⟨_, h1, rfl⟩
end
end
section
open Go.RowKit
section
variable {s : ByteArray} {p : Nat}
theorem tx_lt {c : UInt8} {l : List UInt8} (hd : s.data.toList.drop p = c :: l) : p < s.size := by
 have h := congrArg List.length hd
 rw [List.length_drop, List.length_cons] at h
 show p < s.data.size
 rw [← Array.length_toList]
 omega
theorem tx_next {c : UInt8} {l : List UInt8} (hd : s.data.toList.drop p = c :: l) : s.data.toList.drop (p + 1) = l := by
 rw [← List.drop_drop, hd]
 rfl
theorem tx_app {a l : List UInt8} (hd : s.data.toList.drop p = a ++ l) : s.data.toList.drop (p + a.length) = l := by
 rw [← List.drop_drop, hd, List.drop_left]
theorem tx_fits {a l : List UInt8} (hd : s.data.toList.drop p = a ++ l) (hp : p ≤ s.size) : p + a.length ≤ s.size := by
 have h := congrArg List.length hd
 rw [List.length_drop, List.length_append] at h
 have h2 : s.data.toList.length = s.size := Array.length_toList
 omega
theorem tx_piece {a l : List UInt8} (hd : s.data.toList.drop p = a ++ l) : s.extract p (p + a.length) = ⟨a.toArray⟩ := by
 apply ba_ext
 rw [ByteArray.data_extract, Array.toList_extract, List.extract_eq_take_drop, hd, Nat.add_sub_cancel_left, List.take_left]
theorem btw_32 {l : List UInt8} {line : Bool} (hd : s.data.toList.drop p = 32 :: l) : btw s p line = btw s (p + 1) line := by
 have hlt := tx_lt hd
 have h1 : isGap (32 :: l) = true := by
  unfold isGap
  rw [nx_ascii _ _ (by decide)]
  rfl
 rw [btw_step s p line (by omega), hd, if_pos h1, nx_ascii _ _ (by decide)]
 show btw s (p + 1) (line || endsR 32) = _
 rw [show endsR 32 = false from rfl, Bool.or_false]
def Ink (l : List UInt8) : Prop := isGap l = false ∧ ∀ p, 0 < p → cmKind p l = 0
theorem btw_ink {l : List UInt8} {line : Bool} (hd : s.data.toList.drop p = l) (hp : p ≤ s.size) (h : isGap l = false ∧ cmKind p l = 0) : btw s p line = .fine p line [] := by
 rw [btw_step s p line hp, hd, if_neg (by rw [h.1]; decide), if_pos h.2]
theorem nxt_12 {g : Int} (hg : g = 1 ∨ g = 2) {q : Nat} {line : Bool} {kind : Int} {n : Nat} (hb : btw s p false = .fine q line []) (ht : plainT g (s.data.toList.drop q) = .fine kind n) : nxt s p g = .fine kind q n line [] := by
 unfold nxt tokT
 rcases hg with rfl | rfl <;>
 ·rw [if_neg (by rintro (h | h | ⟨h, _⟩) <;> omega), if_neg (by decide), hb]
  simp only
  rw [if_neg (by decide), if_neg (by decide), if_neg (by decide), ht]
theorem sees_32 {g : Int} (hg : g = 1 ∨ g = 2) {a l : List UInt8} {kind : Int} (hd : s.data.toList.drop p = 32 :: (a ++ l)) (hi : Ink (a ++ l)) (ht : plainT g (a ++ l) = .fine kind a.length) :
  Sees s g p ⟨kind, ⟨a.toArray⟩, ((p + 1 : Nat) : Int), ((p + 1 + a.length : Nat) : Int), false⟩ := by
 have hlt := tx_lt hd
 have hd1 := tx_next hd
 refine ⟨by omega, by omega, p + 1, a.length, ?_, ?_⟩
 ·rw [Int.toNat_natCast]
  refine nxt_12 hg ((btw_32 hd).trans (btw_ink hd1 (by omega) ⟨hi.1, hi.2 _ (by omega)⟩)) ?_
  rw [hd1]
  exact ht
 ·unfold tkOf
  rw [tx_piece hd1]
def endT (p : Nat) : Tk := ⟨0, ⟨#[]⟩, p, p, false⟩
theorem sees_end {g : Int} (hg : g = 1 ∨ g = 2) (hd : s.data.toList.drop p = []) (hp : p ≤ s.size) : Sees s g p (endT p) := by
 refine ⟨by omega, by omega, p, 0, ?_, ?_⟩
 ·rw [Int.toNat_natCast]
  refine nxt_12 hg (btw_ink hd hp ⟨rfl, ?_⟩) ?_
  ·unfold cmKind
   rw [if_neg (by decide), if_neg (by decide), if_neg (by simp [Lib.hasPrefix])]
  ·rw [hd]
   rfl
 ·unfold tkOf endT
  have : s.extract p (p + 0) = ⟨#[]⟩ := tx_piece (a := []) (l := []) hd
  rw [this]
  simp
end
def wordC (c : UInt8) : Bool := decide (c.toNat < 128) && partC (c.toNat : Int)
theorem parts_word {l : List UInt8} (hl : goesP false l = false) : ∀ (a : List UInt8), (∀ c ∈ a, wordC c = true) → partsL false (a ++ l) = a.length
 | [], _ => partsL_no hl
 | c :: a, h => by
  have hc := h c (.head _)
  unfold wordC at hc
  rw [Bool.and_eq_true, decide_eq_true_eq] at hc
  have hg : goesP false (c :: (a ++ l)) = true := by
   unfold goesP
   rw [nx_ascii _ _ hc.1, hc.2]
   rfl
  rw [List.cons_append, partsL_yes hg, nx_ascii _ _ hc.1]
  show 1 + partsL false (a ++ l) = _
  rw [parts_word hl a (fun c hc => h c (.tail _ hc)), List.length_cons]
  omega
theorem name_word {c : UInt8} {a l : List UInt8} (hc : c.toNat < 128) (hs : startC (c.toNat : Int) = true) (ha : ∀ c ∈ a, wordC c = true) (hl : goesP false l = false) : nameL false (c :: (a ++ l)) = a.length + 1 := by
 have hw : ∀ x ∈ c :: a, wordC x = true := by
  intro x hx
  rcases List.mem_cons.1 hx with rfl | hx
  ·unfold wordC partC
   rw [decide_eq_true hc, hs]
   rfl
  ·exact ha x hx
 unfold nameL
 rw [nx_ascii _ _ hc, if_pos ⟨show (0 : Int) < 1 by decide, hs⟩, ← List.cons_append, parts_word hl _ hw, List.length_cons]
theorem pre_no {c d : UInt8} {l w : List UInt8} (h : c ≠ d) : Lib.hasPrefix (c :: l) (d :: w) = false := by
 unfold Lib.hasPrefix
 rw [List.isPrefixOf_cons_cons, beq_eq_false_iff_ne.2 (Ne.symm h), Bool.false_and]
theorem plain_word {g : Int} {c : UInt8} {a l : List UInt8} (hlo : low c) (hs : startC (c.toNat : Int) = true) (ha : ∀ c ∈ a, wordC c = true) (hl : goesP false l = false) (hl2 : 0 ≤ (nx l).2) :
  plainT g (c :: a ++ l) = .fine 1 (c :: a).length := by
 obtain ⟨h1, h2⟩ := hlo
 have hn : ∀ d : UInt8, d.toNat < 97 → c ≠ d := by rintro d hd rfl; omega
 have hdig : digAt (c :: (a ++ l)) = false := by
  unfold digAt
  rw [decide_eq_false_iff_not]
  omega
 have hw := name_word (l := l) (by omega) hs ha hl
 rw [List.cons_append]
 unfold plainT
 rw [if_neg (by simp), if_neg (by rw [pre_no (hn _ (by decide))]; decide), if_neg (by rw [pre_no (hn _ (by decide))]; decide), if_neg (by rw [hdig, pre_no (hn 46 (by decide))]; simp), if_neg (by rw [pre_no (hn _ (by decide)), pre_no (hn _ (by decide))]; simp), if_neg (by rw [pre_no (hn _ (by decide))]; simp), hw, if_pos (by omega)]
 unfold aft
 rw [show (c :: (a ++ l)).drop (a.length + 1) = l by rw [List.drop_succ_cons, List.drop_left], if_neg (by omega), List.length_cons]
theorem tx_get {f : Nat → Bool} {m : Nat} (h : (List.range m).all f = true) (n : Nat) (hn : n < m) : f n = true := List.all_eq_true.1 h n (List.mem_range.2 hn)
theorem gap_row : (List.range 127).all (fun n => decide (n < 33) || !(endsR (n : Int) || blankR (n : Int))) = true := by kernel_rfl
theorem low_row : (List.range 127).all (fun n => decide (n < 97 ∨ 122 < n) || startC (n : Int)) = true := by kernel_rfl
theorem ink_of {c : UInt8} {l : List UInt8} (h1 : 33 ≤ c.toNat) (h2 : c.toNat < 127) (h3 : c ≠ 47) (h4 : c ≠ 35) : Ink (c :: l) := by
 refine ⟨?_, fun p hp => ?_⟩
 ·unfold isGap
  rw [nx_ascii _ _ (by omega)]
  show (decide ((0 : Int) < 1) && (endsR (c.toNat : Int) || blankR (c.toNat : Int))) = false
  have h := (Bool.or_eq_true _ _).mp (tx_get gap_row c.toNat h2)
  rw [Bool.not_eq_true', decide_eq_true_eq] at h
  rw [h.resolve_left (by omega), Bool.and_false]
 ·unfold cmKind
  rw [if_neg (by rw [pre_no h3]; decide), if_neg (by rw [pre_no h3]; decide), if_neg (by rw [pre_no h4]; simp)]
theorem low_start {c : UInt8} (h : low c) : startC (c.toNat : Int) = true := by
 obtain ⟨h1, h2⟩ := h
 have h := tx_get low_row c.toNat (by omega)
 simp only [Bool.or_eq_true, decide_eq_true_eq] at h
 exact h.resolve_left (by omega)
theorem low_word {c : UInt8} (h : low c) : wordC c = true := by
 unfold wordC partC
 rw [low_start h, Bool.true_or, decide_eq_true (show c.toNat < 128 by have := h.2; omega)]
 rfl
theorem part_32 : partC (((32 : UInt8).toNat : Nat) : Int) = false := by kernel_rfl
theorem goes_32 (l : List UInt8) : goesP false (32 :: l) = false := by
 unfold goesP
 rw [nx_ascii _ _ (by decide)]
 simp only [part_32, Bool.false_and, Bool.or_false, Bool.and_false]
theorem nx_32 (l : List UInt8) : 0 ≤ (nx (32 :: l)).2 := by
 rw [nx_ascii _ _ (by decide)]
 decide
end
section
open Go.RowKit
def opsRow : List (List UInt8) := [[124, 124], [38, 38], [124], [94], [38], [61, 61], [33, 61], [61, 61, 61], [33, 61, 61], [60], [62], [60, 61], [62, 61], [105, 110], [105, 110, 115, 116, 97, 110, 99, 101, 111, 102], [60, 60], [62, 62], [62, 62, 62], [43], [45], [42], [47], [37], [42, 42]]
def markC (c : UInt8) : Bool := decide (c.toNat < 128) && !startC (c.toNat : Int) && decide (c ≠ 96 ∧ c ≠ 35 ∧ c ≠ 46 ∧ c ≠ 39 ∧ c ≠ 34 ∧ ¬ (48 ≤ c.toNat ∧ c.toNat ≤ 57))
def txtR : List (List UInt8 × List UInt8) → List UInt8
 | [] => []
 | x :: l => 32 :: (x.1 ++ 32 :: ((118 :: x.2) ++ txtR l))
theorem end_stp (p : Nat) : Stp (endT p) := ⟨.inr rfl, ⟨rfl, rfl, rfl, rfl, (show ¬ (0 : Int) = 7 by decide), (show ¬ (0 : Int) = 8 by decide), rfl, rfl⟩⟩
end
section
open Go.RowKit
section
variable {s : ByteArray} {m : Bool} {i g fl ne ar : Int} {u v : Tk} {n : Nd} {p : Ps} {f : Nat}
theorem cond_z (hb : runQ s m f (.binary 1 false) p = .ok n (Zs i u 1 fl ne ar)) (hk : n.kind ≠ 22) (hq : punctT u ⟨#[63]⟩ = false) : runQ s m (f + 1) .cond p = .ok n (Zs i u 1 fl ne ar) := by
 show condS s (runQ s m f) p = _
 unfold condS
 rw [PM.go hb, if_neg hk, PM.go (is_no (peek_old (by decide)) hq), if_neg (by decide)]
 rfl
theorem assigned_z (hk : n.kind ≠ 22) (ha : assigningT u = false) : runQ s m (f + 1) (.assigned n) (Zs i u 1 fl ne ar) = .ok n (Zs i u 1 fl ne ar) := by
 show assignedS s (runQ s m f) n _ = _
 unfold assignedS
 rw [if_neg hk, PM.go (peek_old (by decide)), if_neg (by rw [ha]; decide)]
 rfl
theorem deeper_z {α : Type} {x : PM α} {i' : Int} {u' : Tk} {g' fl' ar' place : Int} {a : α} (h0 : 0 ≤ ne) (h1 : ne < 4000) (hx : x (Zs i u g fl (ne + 1) ar) = .ok a (Zs i' u' g' fl' (ne + 1) ar')) : deeperP place x (Zs i u g fl ne ar) = .ok a (Zs i' u' g' fl' ne ar') := by
 unfold deeperP
 show (if 4000 ≤ ne then _ else _) = _
 rw [if_neg (by omega)]
 show PM.bind x _ (Zs i u g fl (ne + 1) ar) = _
 unfold PM.bind
 rw [hx]
 show (if ne + 1 ≤ 0 then _ else _) = _
 rw [if_neg (by omega)]
 show Res.ok a (Zs _ _ _ _ (ne + 1 - 1) _) = _
 rw [Int.add_sub_cancel]
 rfl
theorem expression_z (ha : runQ s m f .assign p = .ok n (Zs i u 1 fl ne ar)) (hc : punctT u ⟨#[44]⟩ = false) : runQ s m (f + 1) .expression p = .ok n (Zs i u 1 fl ne ar) := by
 show expressionS s f (runQ s m f) p = _
 unfold expressionS
 rw [PM.go ha, PM.go (peek_old (by decide)), if_neg (by rw [hc]; decide)]
 rfl
theorem expr_z (he : runQ s m f .expression (ps0 m) = .ok n (Zs i u 1 fl ne ar)) (hu : u.kind = 0) (hn : noProp n = true) (hz : ndSize n ≤ 8000) : exprQ s m f = .ok n (Zs i u 1 fl ne ar) := by
 have hd := deep_le n
 unfold exprQ readQ expr1S
 rw [PM.go (show _ = Res.ok n (Zs i u 1 fl ne ar) by rw [PM.go he, PM.go (peek_old (by decide)), if_pos hu]; rfl), if_neg (by rw [hn]; decide), if_neg (by omega), if_neg (by omega)]
 rfl
end
end
section
open Go.RowKit
def IntsArg (w : World) (ao : Option Addr) (len : Nat) : Prop := ∀ j, j < len → ∃ b off, ao = some ⟨b, off, none⟩ ∧ b < w.heap.size ∧ ∃ z : Int, w.cell? ⟨b, off + j, none⟩ = some (.int .i64 z)
def rowL : Nat → List (List UInt8) → List (List UInt8 × List UInt8)
 | _, [] => []
 | k, o :: os => (o, dcl (k + 1)) :: rowL (k + 1) os
theorem rowL_snoc : ∀ (os : List (List UInt8)) (k : Nat) (o : List UInt8), rowL k (os ++ [o]) = rowL k os ++ [(o, dcl (k + os.length + 1))]
 | [], _, _ => rfl
 | a :: os, k, o => by
  rw [List.cons_append, rowL, rowL, rowL_snoc os, List.cons_append, List.length_cons, show k + 1 + os.length + 1 = k + (os.length + 1) + 1 by omega]
theorem txtR_snoc : ∀ (a : List (List UInt8 × List UInt8)) (x : List UInt8 × List UInt8), txtR (a ++ [x]) = txtR a ++ 32 :: (x.1 ++ 32 :: 118 :: x.2)
 | [], x => by simp [txtR]
 | y :: a, x => by rw [List.cons_append, txtR, txtR, txtR_snoc a x]; simp
theorem opsRow_len : ∀ o ∈ opsRow, o.length ≤ 10 := by decide
theorem pickN (i : Int) (n : Nat) (hn : 0 < n) : ∃ a : Nat, (IntKind.u64.wrap i).tmod n = (a : Int) ∧ a < n := by
 have e : IntKind.u64.wrap i = i % 18446744073709551616 := rfl
 have h1 : 0 ≤ (IntKind.u64.wrap i).tmod n := by rw [e, Int.tmod_eq_emod_of_nonneg (by omega)]; exact Int.emod_nonneg _ (by omega)
 have h2 : (IntKind.u64.wrap i).tmod n < n := by rw [e, Int.tmod_eq_emod_of_nonneg (by omega)]; exact Int.emod_lt_of_pos _ (by omega)
 exact ⟨((IntKind.u64.wrap i).tmod n).toNat, by omega, by omega⟩
def StrS (g : Nat) (l : List (List UInt8)) (W : World) : Prop := g < W.heap.size ∧ ∀ a, (h : a < l.length) → W.cell? ⟨g, a, none⟩ = some (.string ⟨l[a].toArray⟩)
theorem StrS.new (w : World) (l : List (List UInt8)) (T : TypeId) : StrS w.heap.size l (w.alloc (.cells (l.map fun o => Value.string ⟨o.toArray⟩).toArray T)) := by
 refine ⟨by rw [World.size_alloc]; exact Nat.lt_succ_self _, fun a h => ?_⟩
 rw [cell_of_row _ _ _ _ T (0, 0) (heap_alloc_new _ _), List.getElem?_toArray, List.getElem?_map, List.getElem?_eq_getElem h]
 rfl
theorem StrS.bel {g : Nat} {l : List (List UInt8)} {w w' : World} (h : StrS g l w) (hb : Below w.heap.size w w') : StrS g l w' :=
 ⟨Nat.lt_of_lt_of_le h.1 hb.size, fun a ha => (World.cell?_of_block (hb.block g h.1)).trans (h.2 a ha)⟩
theorem StrS.lay {g r : Nat} {l : List (List UInt8)} {w : World} (h : StrS g l w) (hr : g ≠ r) (k : Int) (t : ByteArray) (v : Value) (f u : Int) : StrS g l (lay5 w r k t v f u) :=
 ⟨by rw [lay5_size]; exact h.1, fun a ha => (World.cell?_of_block (lay5_block _ _ _ _ _ _ _ _ hr)).trans (h.2 a ha)⟩
theorem push_bel2 {B : Nat} {a w w1 : World} {o : Obj} {v : Value} {T : TypeId} {n m : Nat} {xs : List Value} (hb : Below B a w) (hB : B ≤ w.heap.size) (ho : w.ownsRow B T m v n xs) (hg : (w.alloc o).grownBy w1 v.ownBlock) : Below B a w1 := by
 refine (hb.alloc hB o).grown hg ?_ ?_
 ·rw [World.size_alloc]; omega
 ·intro k hk
  rcases ho.2 with ⟨rfl, _⟩ | ⟨g, cap, cur, rfl, h, _⟩
  ·cases hk
  ·cases hk; exact h
structure OSt (w : World) (os : List (List UInt8)) (ov sv : Value) (wr : World) : Prop where
 own : wr.ownsRow w.heap.size 9 1 ov os.length (os.map fun o => Value.string ⟨o.toArray⟩)
 bel : Below w.heap.size w wr
 mem : ∀ o ∈ os, o ∈ opsRow
 txt : ∃ S : ByteArray, sv = .string S ∧ S.data.toList = (118 :: dcl 0) ++ txtR (rowL 0 os) ∧ S.size ≤ 20 * os.length + 2
theorem OSt.next {w wr w2 w3 : World} {os : List (List UInt8)} {ov v : Value} {S X t : ByteArray} {o : List UInt8} {ob : Obj} {m : Nat} (h : OSt w os ov (.string S) wr) (hm : os.length = m) (hk : m < 40) (ho : o ∈ opsRow) (ht : (⟨o.toArray⟩ : ByteArray) = t) (hg : (wr.alloc ob).grownBy w2 ov.ownBlock)
  (hown : w2.ownsRow w.heap.size 9 1 v (m + 1) ((os.map fun o => Value.string ⟨o.toArray⟩) ++ [.string t])) (hb : Below w2.heap.size w2 w3) (hX : X.data.toList = S.data.toList ++ 32 :: (o ++ 32 :: 118 :: dcl (m + 1))) :
  OSt w (os ++ [o]) v (.string X) w3 := by
 subst hm
 subst ht
 refine ⟨?_, bel_next (push_bel2 h.bel h.bel.size h.own hg) hb, ?_, X, rfl, ?_, ?_⟩
 ·rw [List.length_append, List.map_append]
  exact own_below hown hb
 ·intro x hx
  rcases List.mem_append.1 hx with hx | hx
  ·exact h.mem x hx
  ·rw [List.mem_singleton.1 hx]; exact ho
 ·obtain ⟨S', e, h1, _⟩ := h.txt
  injection e with e
  subst e
  rw [rowL_snoc, txtR_snoc, hX, h1, Nat.zero_add]
  simp
 ·obtain ⟨S', e, h1, h2⟩ := h.txt
  injection e with e
  subst e
  have h3 := opsRow_len o ho
  have h4 := (dcl_row ⟨os.length + 1, by omega⟩).1
  simp only at h4
  have h5 := ba_size hX
  have h6 : S.data.toList.length = S.size := Array.length_toList
  rw [List.length_append, h6] at h5
  simp at h5 ⊢
  omega
end
section
open Go.RowKit
theorem Sees.uniq {s : ByteArray} {g i : Int} {t u : Tk} (h : Sees s g i t) (k : Sees s g i u) : t = u := by
 obtain ⟨_, _, q, n, h1, h2⟩ := h
 obtain ⟨_, _, q', n', k1, k2⟩ := k
 rw [h1] at k1
 injection k1 with e1 e2 e3 e4
 rw [← h2, ← k2, e1, e2, e3, e4]
section
variable {s : ByteArray} {m : Bool} {i g fl ne ar : Int} {u v t d b e : Tk} {n : Nd} {p : Ps} {f : Nat}
theorem link_dot (f : Nat) (n : Nd) (calls tmpl : Bool) (hd : punctT d ⟨#[46]⟩ = true) (hp : peekP s 1 p = .ok d (Zs i d 1 fl ne ar)) (hb : Sees s 1 d.till b) (hk : b.kind = 1) :
  runQ s m (f + 1) (.link n calls tmpl) p = .ok (.mk 38 ⟨#[]⟩ [n, leafN 1 b] n.from' b.till, true) (Zs b.till b 0 fl ne ar) := by
 show linkS s (runQ s m f) n calls tmpl _ = _
 unfold linkS
 rw [PM.go hp, if_pos hd, PM.go take_z]
 have h2 : propertyP s (decide (n.kind ≠ 6) || decide (n.text ≠ ⟨#[115, 117, 112, 101, 114]⟩)) (Zs d.till d 0 fl ne ar) = .ok (leafN 1 b) (Zs b.till b 0 fl ne ar) := by
  unfold propertyP
  rw [PM.go (peek_new hb), if_pos hk, PM.go take_z]
  rfl
 rw [PM.go h2]
 rfl
theorem left_dot (f : Nat) (h : Nm t) (hg : g = 1 ∨ g = 2) (hp : peekP s 2 p = .ok t (Zs i t g fl ne ar)) (hs : Sees s 1 t.till d) (hd : punctT d ⟨#[46]⟩ = true) (hb : Sees s 1 d.till b) (hk : b.kind = 1) (he : Endy e) (hse : Sees s 1 b.till e) :
  runQ s m (f + 5) .leftHand p = .ok (.mk 38 ⟨#[]⟩ [leafN 1 t, leafN 1 b] t.from' b.till) (Zs b.till e 1 fl ne ar) := by
 have hopt : punctT d ⟨#[63, 46]⟩ = false := by
  unfold punctT at hd ⊢
  rw [Bool.and_eq_true, decide_eq_true_eq, decide_eq_true_eq] at hd
  rw [hd.2]
  simp
 show leftHandS s (f + 4) (runQ s m (f + 4)) p = _
 unfold leftHandS
 rw [PM.go hp, PM.go (get_z _)]
 show (runQ s m (f + 4) (.base t true) >>= _) _ = _
 rw [PM.go (base_z (f + 1) h hg true), if_neg (leaf_k t), if_neg (by rw [show decide ((leafN 1 t).text = ⟨#[97, 115, 121, 110, 99]⟩) = false from decide_eq_false h.asy]; simp)]
 unfold leftHandS.linkL
 rw [PM.go (peek_new hs), if_neg (by rw [hopt]; decide), PM.go (link_dot (f + 3) (leafN 1 t) true true hd (peek_old (by decide)) hb hk), if_pos rfl]
 unfold leftHandS.linkL
 rw [PM.go (peek_new hse), if_neg (by rw [he.opt]; decide), PM.go (link_no (f + 3) _ true true he (peek_old (by decide))), if_neg (show ¬ ((false : Bool) = true) by decide)]
 rfl
def sgB (t : Tk) : Bool := nameT t ⟨#[100, 101, 108, 101, 116, 101]⟩ || nameT t ⟨#[118, 111, 105, 100]⟩ || nameT t ⟨#[116, 121, 112, 101, 111, 102]⟩ || punctT t ⟨#[43]⟩ || punctT t ⟨#[45]⟩ || punctT t ⟨#[126]⟩ || punctT t ⟨#[33]⟩
structure SgT (o : Tk) : Prop where
 k2 : o.kind ≠ 2
 yi : nameT o ⟨#[121, 105, 101, 108, 100]⟩ = false
 asy : nameT o ⟨#[97, 115, 121, 110, 99]⟩ = false
 aw : nameT o ⟨#[97, 119, 97, 105, 116]⟩ = false
 arr : punctT o ⟨#[61, 62]⟩ = false
def Sg1 (o : Tk) : Prop := sgB o = true ∧ o.text ≠ ⟨#[43, 43]⟩ ∧ o.text ≠ ⟨#[45, 45]⟩
def Sg2 (o : Tk) : Prop := sgB o = false ∧ (punctT o ⟨#[43, 43]⟩ || punctT o ⟨#[45, 45]⟩) = true
def SgR (s : ByteArray) (e : Tk) : Int → List Tk → Prop
 | i, [] => ∃ t d b : Tk, Nm t ∧ Sees s 2 i t ∧ Sees s 1 i t ∧ Sees s 1 t.till d ∧ punctT d ⟨#[46]⟩ = true ∧ Sees s 1 d.till b ∧ b.kind = 1 ∧ Sees s 1 b.till e ∧ t.text = ⟨#[97]⟩ ∧ b.text = ⟨#[98]⟩
 | i, o :: l => Sees s 2 i o ∧ Sees s 1 i o ∧ SgT o ∧ (Sg1 o ∨ (Sg2 o ∧ l = [])) ∧ SgR s e o.till l
def sgN : List ByteArray → Nd
 | [] => .mk 38 ⟨#[]⟩ [.mk 1 ⟨#[97]⟩ [] 0 0, .mk 1 ⟨#[98]⟩ [] 0 0] 0 0
 | o :: l => if o = ⟨#[43, 43]⟩ ∨ o = ⟨#[45, 45]⟩ then .mk 28 (o ++ ⟨#[120]⟩) [sgN l] 0 0 else .mk 27 o [sgN l] 0 0
theorem SgR.head {l : List Tk} (h : SgR s e i l) : ∃ v, Sees s 2 i v ∧ Sees s 1 i v ∧ v.kind ≠ 2 ∧ nameT v ⟨#[121, 105, 101, 108, 100]⟩ = false ∧ nameT v ⟨#[97, 115, 121, 110, 99]⟩ = false ∧ punctT v ⟨#[61, 62]⟩ = false := by
 cases l with
 | nil =>
  obtain ⟨t, d, b, h1, h2, h3, _⟩ := h
  exact ⟨t, h2, h3, by rw [h1.kind]; decide, h1.nameT (by decide), nameT_ne h1.asy, h1.punctT _⟩
 | cons o l => exact ⟨o, h.1, h.2.1, h.2.2.1.k2, h.2.2.1.yi, h.2.2.1.asy, h.2.2.1.arr⟩
theorem SgR.two {l : List Tk} (h : SgR s e i l) : ∀ v, Sees s 2 i v → ∃ u, Sees s 1 v.till u ∧ punctT u ⟨#[61, 62]⟩ = false := by
 intro v hv
 cases l with
 | nil =>
  obtain ⟨t, d, b, h1, h2, h3, h4, h5, _⟩ := h
  rw [hv.uniq h2]
  refine ⟨d, h4, ?_⟩
  unfold punctT at h5 ⊢
  rw [Bool.and_eq_true, decide_eq_true_eq, decide_eq_true_eq] at h5
  rw [h5.2]
  simp
 | cons o l =>
  rw [hv.uniq h.1]
  obtain ⟨u, _, h1, _, _, _, h2⟩ := SgR.head h.2.2.2.2
  exact ⟨u, h1, h2⟩
theorem bare_one {k : Int} {x : ByteArray} {a : Nd} {y z : Int} (h : ¬ k = 26) : bareNd (.mk k x [a] y z) = .mk k x [bareNd a] 0 0 := by
 rw [bareNd, if_neg h, bareNds, bareNds]
theorem prefix_z {n : Nd} {o v : Tk} {g2 till' : Int} (hv : Sees s 2 o.till v) (h0 : 0 ≤ ne) (h1 : ne < 4000) (hx : runQ s m f .unary (Zs o.till v 2 fl (ne + 1) ar) = .ok n (Zs till' e 1 fl (ne + 1) ar)) :
  prefixS s (runQ s m f) (Zs i o g2 fl ne ar) = .ok n (Zs till' e 1 fl ne ar) := by
 unfold prefixS
 rw [PM.go take_z, PM.go (peek_new hv)]
 exact deeper_z h0 h1 hx
theorem unary_sg (he : Endy e) (F : Nat) : ∀ (l : List Tk) (i g ne : Int) (v : Tk) (p : Ps), SgR s e i l → (g = 1 ∨ g = 2) → Sees s 2 i v → peekP s 2 p = .ok v (Zs i v g fl ne ar) → 0 ≤ ne → ne + l.length ≤ 3990 →
  ∃ n till, runQ s m (F + l.length + 6) .unary p = .ok n (Zs till e 1 fl ne ar) ∧ bareNd n = sgN (l.map (·.text)) ∧ noProp n = true ∧ ndSize n = l.length + 3 ∧ (n.kind = 27 ∨ n.kind = 28 ∨ (n.kind = 38 ∧ l = [] ∧ targetB n = true))
 | [], i, g, ne, v, p, hr, hg, hv, hp, h0, h1 => by
  obtain ⟨t, d, b, a1, a2, a3, a4, a5, a6, a7, a8, a9, a10⟩ := hr
  obtain rfl := hv.uniq a2
  refine ⟨.mk 38 ⟨#[]⟩ [leafN 1 v, leafN 1 b] v.from' b.till, b.till, ?_, ?_, rfl, rfl, .inr (.inr ⟨rfl, rfl, rfl⟩)⟩
  ·show unaryS s (runQ s m (F + 5)) p = _
   unfold unaryS
   rw [PM.go hp, if_neg (by rw [a1.nameT (by decide), a1.nameT (by decide), a1.nameT (by decide), a1.punctT, a1.punctT, a1.punctT, a1.punctT]; decide), PM.go (get_z _), if_neg (by rw [nameT_ne a1.aw]; simp), if_neg (by rw [a1.punctT, a1.punctT]; decide), PM.go (left_dot F a1 hg (peek_self hg a1.sl (by decide)) a4 a5 a6 a7 he a8), if_neg (show ¬ (Nd.mk 38 ⟨#[]⟩ [leafN 1 v, leafN 1 b] v.from' b.till).kind = 22 by show ¬ (38 : Int) = 22; decide), PM.go (peek_old (by decide)), if_neg (by rw [he.inc, he.dec]; simp)]
   rfl
  ·unfold leafN
   rw [bareNd, if_neg (by decide), bareNds, bareNds, bareNds, bareNd, bareNd, if_neg (by decide), if_neg (by decide), bareNds, a9, a10]
   rfl
 | o :: l, i, g, ne, v, p, hr, hg, hv, hp, h0, h1 => by
  obtain ⟨b1, b2, b3, b4, b5⟩ := hr
  obtain rfl := hv.uniq b1
  rw [List.length_cons] at h1
  obtain ⟨w, w1, _⟩ := SgR.head b5
  obtain ⟨n, till', c1, c2, c3, c4, c5⟩ := unary_sg he F l v.till 2 (ne + 1) w (Zs v.till w 2 fl (ne + 1) ar) b5 (.inr rfl) w1 (peek_old (by decide)) (by omega) (by omega)
  have hpre : prefixS s (runQ s m (F + l.length + 6)) (Zs i v g fl ne ar) = .ok n (Zs till' e 1 fl ne ar) := prefix_z w1 h0 (by omega) c1
  have hrun : runQ s m (F + (v :: l).length + 6) .unary p = unaryS s (runQ s m (F + l.length + 6)) p := by
   rw [List.length_cons, show F + (l.length + 1) + 6 = F + l.length + 6 + 1 by omega]
   rfl
  rw [hrun]
  unfold unaryS
  rcases b4 with ⟨q1, q2, q3⟩ | ⟨⟨q1, q2⟩, hl⟩
  ·refine ⟨.mk 27 v.text [n] v.from' till', till', ?_, ?_, ?_, ?_, .inl rfl⟩
   ·rw [PM.go hp]
    show (if sgB v = true then _ else _ : PM Nd) _ = _
    rw [if_pos q1, PM.go hpre]
    rfl
   ·rw [bare_one (by decide), c2, List.map_cons, sgN, if_neg (by rintro (h | h); exact q2 h; exact q3 h)]
   ·rw [noProp, noProps, noProps, c3]; rfl
   ·rw [ndSize, ndSizes, ndSizes, c4, List.length_cons]; omega
  ·subst hl
   rcases c5 with c5 | c5 | ⟨c5, _, c6⟩
   ·exact absurd (congrArg Nd.kind c2) (by rw [show (bareNd n).kind = 27 from by cases n; simp only [Nd.kind] at c5; subst c5; rw [bareNd, if_neg (by decide)]; rfl]; decide)
   ·exact absurd (congrArg Nd.kind c2) (by rw [show (bareNd n).kind = 28 from by cases n; simp only [Nd.kind] at c5; subst c5; rw [bareNd, if_neg (by decide)]; rfl]; decide)
   refine ⟨.mk 28 (v.text ++ ⟨#[120]⟩) [n] v.from' till', till', ?_, ?_, ?_, ?_, .inr (.inl rfl)⟩
   ·rw [PM.go hp]
    show (if sgB v = true then _ else _ : PM Nd) _ = _
    rw [if_neg (by rw [q1]; decide), PM.go (get_z _), if_neg (by rw [b3.aw]; simp), if_pos q2, PM.go hpre]
    unfold targetP
    rw [if_pos c6]
    rfl
   ·have q3 : v.text = ⟨#[43, 43]⟩ ∨ v.text = ⟨#[45, 45]⟩ := by
     unfold punctT at q2
     simp only [Bool.or_eq_true, Bool.and_eq_true, decide_eq_true_eq] at q2
     rcases q2 with ⟨_, h⟩ | ⟨_, h⟩
     ·exact .inl h
     ·exact .inr h
    rw [bare_one (by decide), c2, List.map_cons, sgN, if_pos q3]
   ·rw [noProp, noProps, noProps, c3]; rfl
   ·rw [ndSize, ndSizes, ndSizes, c4, List.length_cons]; omega
theorem bin_end (ho : runQ s m (f + 1) (.operand 1) p = .ok n (Zs i u 1 1 ne ar)) (hk : n.kind ≠ 22) (hu : Stp u) : runQ s m (f + 2) (.binary 1 false) p = .ok n (Zs i u 1 1 ne ar) := by
 show binaryS s (f + 1) (runQ s m (f + 1)) 1 false p = _
 unfold binaryS
 rw [PM.go ho, if_neg hk]
 obtain ⟨r, r1, r2⟩ := operator_no (s := s) (i := i) (ne := ne) (ar := ar) hu
 unfold binaryS.opsL
 rw [PM.go r2, if_pos (.inr r1)]
 rfl
theorem operand_any (least : Int) (hp : peekP s 2 p = .ok v (Zs i v g fl ne ar)) (hk : v.kind ≠ 2) : runQ s m (f + 1) (.operand least) p = runQ s m f .unary (Zs i v g fl ne ar) := by
 show operandS s (runQ s m f) least p = _
 unfold operandS
 rw [PM.go hp, if_pos hk]
theorem single_any (hv : nameT v ⟨#[97, 115, 121, 110, 99]⟩ = false) (hu : Sees s 1 v.till u) (har : punctT u ⟨#[61, 62]⟩ = false) : assignS.single s m v (Zs i v g fl ne ar) = .ok false (Zs i v g fl ne ar) := by
 unfold assignS.single
 rw [PM.go (get_z _), if_neg (by rw [hv]; decide)]
 show ((pure v : PM Tk) >>= _) _ = _
 rw [PM.go (show (pure v : PM Tk) (Zs i v g fl ne ar) = .ok v (Zs i v g fl ne ar) from rfl), PM.go (look_z hu _), if_pos (by rw [har]; simp)]
 rfl
theorem assign_any {i' g' fl' ar' i2 g2 fl2 ar2 : Int} {u' u2 : Tk} {n2 : Nd} (hy : nameT v ⟨#[121, 105, 101, 108, 100]⟩ = false) (hv : nameT v ⟨#[97, 115, 121, 110, 99]⟩ = false) (hp : peekP s 2 p = .ok v (Zs i v g fl ne ar)) (hu : Sees s 1 v.till u) (har : punctT u ⟨#[61, 62]⟩ = false) (h0 : 0 ≤ ne) (h1 : ne < 4000)
  (hc : runQ s m f .cond (Zs i v g fl (ne + 1) v.from') = .ok n (Zs i' u' g' fl' (ne + 1) ar')) (ha : runQ s m f (.assigned n) (Zs i' u' g' fl' (ne + 1) ar') = .ok n2 (Zs i2 u2 g2 fl2 (ne + 1) ar2)) :
  runQ s m (f + 1) .assign p = .ok n2 (Zs i2 u2 g2 fl2 ne ar2) := by
 show assignS s m (runQ s m f) p = _
 unfold assignS
 rw [PM.go hp]
 refine deeper_z h0 h1 ?_
 rw [PM.go (get_z _), if_neg (by rw [hy]; simp), PM.go (single_any hv hu har), if_neg (by decide)]
 rw [PM.go (show modP (fun q => { q with arrow := v.from' }) (Zs i v g fl (ne + 1) ar) = .ok () (Zs i v g fl (ne + 1) v.from') from rfl), PM.go hc]
 exact ha
end
set_option maxHeartbeats 1000000 in
theorem expr_sg {s : ByteArray} (F : Nat) (l : List Tk) (hr : SgR s (endT s.size) 0 l) (hl : l.length ≤ 30) :
  ∃ n q, exprQ s false (F + l.length + 11) = .ok n q ∧ bareNd n = sgN (l.map (·.text)) ∧ ndSize n ≤ 33 := by
 have hend := end_stp s.size
 obtain ⟨v, v1, v2, v3, v4, v5, v6⟩ := SgR.head hr
 obtain ⟨u, u1, u2⟩ := SgR.two hr v v1
 obtain ⟨n, till', c1, c2, c3, c4, c5⟩ := unary_sg (m := false) (fl := 1) (ar := v.from') hend.e F l 0 2 1 v (Zs 0 v 2 1 1 v.from') hr (.inr rfl) v1 (peek_old (by decide)) (by decide) (by omega)
 have hk : n.kind ≠ 22 := by rcases c5 with h | h | ⟨h, _⟩ <;> omega
 have h1 : runQ s false (F + l.length + 7) (.operand 1) (Zs 0 v 2 1 1 v.from') = .ok n (Zs till' (endT s.size) 1 1 1 v.from') := (operand_any (f := F + l.length + 6) 1 (peek_old (by decide)) v3).trans c1
 have h2 : runQ s false (F + l.length + 8) (.binary 1 false) (Zs 0 v 2 1 1 v.from') = .ok n (Zs till' (endT s.size) 1 1 1 v.from') := bin_end (f := F + l.length + 6) h1 hk hend
 have h3 : runQ s false (F + l.length + 9) .cond (Zs 0 v 2 1 1 v.from') = .ok n (Zs till' (endT s.size) 1 1 1 v.from') := cond_z (f := F + l.length + 8) h2 hk (show punctT (endT s.size) ⟨#[63]⟩ = false from rfl)
 have h4 := assigned_z (s := s) (m := false) (f := F + l.length + 8) (i := till') (fl := 1) (ne := 1) (ar := v.from') (u := endT s.size) (n := n) hk rfl
 have hp1 : peekP s 2 (Zs 0 Tk.zero 0 1 0 (-1)) = _ := peek_new v1
 have h5 := assign_any (m := false) (ne := 0) (i := 0) (g := 2) (fl := 1) (ar := -1) (f := F + l.length + 9) (n := n) (n2 := n) (i' := till') (i2 := till') (g' := 1) (g2 := 1) (fl' := 1) (fl2 := 1) (ar' := v.from') (ar2 := v.from') (u' := endT s.size) (u2 := endT s.size) v4 v5 hp1 u1 u2 (by decide) (by decide) (by rw [Int.zero_add]; exact h3) (by rw [Int.zero_add]; exact h4)
 have h6 := expression_z h5 rfl
 exact ⟨n, _, expr_z (m := false) h6 rfl c3 (by omega), c2, by omega⟩
end
section
open Go.RowKit
section
variable {s : ByteArray} {p : Nat}
def Ink0 (l : List UInt8) : Prop := isGap l = false ∧ ∀ p, cmKind p l = 0
theorem ink0_of {c : UInt8} {l : List UInt8} (h1 : 33 ≤ c.toNat) (h2 : c.toNat < 127) (h3 : c ≠ 47) (h4 : c ≠ 35) : Ink0 (c :: l) := by
 refine ⟨(ink_of h1 h2 h3 h4).1, fun p => ?_⟩
 unfold cmKind
 rw [if_neg (by rw [pre_no h3]; decide), if_neg (by rw [pre_no h3]; decide), if_neg (by rw [pre_no h4]; simp)]
theorem sees_adj {g : Int} (hg : g = 1 ∨ g = 2) {a l : List UInt8} {kind : Int} (hd : s.data.toList.drop p = a ++ l) (hp : p ≤ s.size) (hi : Ink0 (a ++ l)) (ht : plainT g (a ++ l) = .fine kind a.length) :
  Sees s g p ⟨kind, ⟨a.toArray⟩, (p : Int), ((p + a.length : Nat) : Int), false⟩ := by
 refine ⟨by omega, by omega, p, a.length, ?_, ?_⟩
 ·rw [Int.toNat_natCast]
  refine nxt_12 hg (btw_ink hd hp ⟨hi.1, hi.2 _⟩) ?_
  rw [hd]
  exact ht
 ·unfold tkOf
  rw [tx_piece hd]
theorem sees_at {a l : List UInt8} {kind : Int} (hd : s.data.toList.drop p = a ++ l ∨ s.data.toList.drop p = 32 :: (a ++ l)) (hp : p ≤ s.size) (hi : Ink0 (a ++ l)) (ht : ∀ g : Int, g = 1 ∨ g = 2 → plainT g (a ++ l) = .fine kind a.length) :
  ∃ (q : Nat) (fr : Int), q ≤ s.size ∧ s.data.toList.drop q = l ∧ ∀ g : Int, g = 1 ∨ g = 2 → Sees s g p ⟨kind, ⟨a.toArray⟩, fr, (q : Int), false⟩ := by
 rcases hd with hd | hd
 ·exact ⟨p + a.length, p, tx_fits hd hp, tx_app hd, fun g hg => sees_adj hg hd hp hi (ht g hg)⟩
 ·have hlt := tx_lt hd
  exact ⟨p + 1 + a.length, ((p + 1 : Nat) : Int), tx_fits (tx_next hd) hlt, tx_app (tx_next hd), fun g hg => sees_32 hg hd ⟨hi.1, fun p _ => hi.2 p⟩ (ht g hg)⟩
end
theorem nm_a : Nm ⟨1, ⟨#[97]⟩, 0, 0, false⟩ := ⟨rfl, by decide, by decide, by decide, rfl⟩
theorem plain_markg {g : Int} {c : UInt8} {l : List UInt8} {n : Nat} (hc : markC c = true) (h47 : c ≠ 47) (hp : pct g (c :: l) = n) (hn : n ≠ 0) : plainT g (c :: l) = .fine 5 n := by
 unfold markC at hc
 rw [Bool.and_eq_true, Bool.and_eq_true, decide_eq_true_eq, decide_eq_true_eq, Bool.not_eq_true'] at hc
 obtain ⟨⟨h1, h2⟩, h3, h4, h5, h6, h7, h8⟩ := hc
 have hdig : digAt (c :: l) = false := by
  unfold digAt
  rw [decide_eq_false_iff_not]
  exact h8
 have hname : nameL false (c :: l) = 0 := by
  unfold nameL
  rw [nx_ascii _ _ h1, if_neg]
  rintro ⟨_, h⟩
  simp only at h
  rw [h2] at h
  cases h
 unfold plainT
 rw [if_neg (by simp), if_neg (by rw [pre_no h3]; decide), if_neg (by rw [pre_no h4]; decide), if_neg (by rw [hdig, pre_no h5]; simp), if_neg (by rw [pre_no h6, pre_no h7]; simp), if_neg (by rintro ⟨_, h⟩; rw [pre_no h47] at h; cases h), if_neg (by rw [hname]; simp), hp, if_pos hn]
theorem pct_no {g : Int} {c : UInt8} {l : List UInt8} (h : c ≠ 47) : pct g (c :: l) = match pctRow.find? (pctIs (c :: l)) with | some w => w.length | none => 0 := by
 unfold pct
 rw [if_neg (by rintro ⟨_, h1⟩; rw [pre_no h] at h1; cases h1), if_neg (by rintro ⟨_, h1⟩; rw [pre_no h] at h1; cases h1)]
 rfl
theorem plain_dot {g : Int} {c : UInt8} {l : List UInt8} (hc : low c) : plainT g (46 :: c :: l) = .fine 5 1 := by
 obtain ⟨h1, h2⟩ := hc
 have hdig : digAt (46 :: c :: l) = false := rfl
 have hdig2 : digAt (c :: l) = false := by
  unfold digAt
  rw [decide_eq_false_iff_not]
  omega
 have hname : nameL false (46 :: c :: l) = 0 := by
  unfold nameL
  rw [nx_ascii _ _ (by decide), if_neg]
  rintro ⟨_, h⟩
  revert h
  decide
 have h46 : c ≠ 46 := by rintro rfl; simp at h1
 have hpct : pct g (46 :: c :: l) = 1 := by
  rw [pct_no (by decide)]
  have hf : pctRow.find? (pctIs (46 :: c :: l)) = some [46] := by
   have hb : (46 == c) = false := beq_eq_false_iff_ne.2 (Ne.symm h46)
   simp [pctRow, pctIs, Lib.hasPrefix, List.find?, hb, List.isPrefixOf]
  rw [hf]
  rfl
 unfold plainT
 rw [if_neg (by simp), if_neg (by rw [pre_no (by decide)]; decide), if_neg (by rw [pre_no (by decide)]; decide), if_neg (by rw [hdig, List.drop_succ_cons, List.drop_zero, hdig2]; simp), if_neg (by rw [pre_no (by decide), pre_no (by decide)]; simp), if_neg (by rintro ⟨_, h⟩; rw [pre_no (by decide)] at h; cases h), if_neg (by rw [hname]; simp), hpct, if_pos (by decide)]
end
section
open Go.RowKit
def sgRow : List (List UInt8) := [[45], [43], [33], [126], [116, 121, 112, 101, 111, 102], [118, 111, 105, 100], [100, 101, 108, 101, 116, 101], [43, 43], [45, 45]]
def sgK (o : List UInt8) : Int := if o = [116, 121, 112, 101, 111, 102] ∨ o = [118, 111, 105, 100] ∨ o = [100, 101, 108, 101, 116, 101] then 1 else 5
theorem sg_plain : ∀ o ∈ sgRow, ∀ l, ∀ g : Int, g = 1 ∨ g = 2 → plainT g (o ++ 32 :: l) = .fine (sgK o) o.length := by
 intro o ho l g hg
 simp only [sgRow, List.mem_cons, List.not_mem_nil, or_false] at ho
 rcases ho with rfl | rfl | rfl | rfl | rfl | rfl | rfl | rfl | rfl <;>
  first
  | exact plain_word (by decide) (low_start (by decide)) (fun x hx => low_word (by revert x; decide)) (goes_32 l) (nx_32 l)
  | exact plain_markg (by decide) (by decide) ((pct_no (by decide)).trans rfl) (by decide)
theorem sg_ink : ∀ o ∈ sgRow, ∀ l, Ink0 (o ++ 32 :: l) := by
 intro o ho l
 simp only [sgRow, List.mem_cons, List.not_mem_nil, or_false] at ho
 rcases ho with rfl | rfl | rfl | rfl | rfl | rfl | rfl | rfl | rfl <;> exact ink0_of (by decide) (by decide) (by decide) (by decide)
theorem sg_tok0 : ∀ o ∈ sgRow, SgT ⟨sgK o, ⟨o.toArray⟩, 0, 0, false⟩ := by
 intro o ho
 simp only [sgRow, List.mem_cons, List.not_mem_nil, or_false] at ho
 rcases ho with rfl | rfl | rfl | rfl | rfl | rfl | rfl | rfl | rfl <;> exact ⟨by decide, by decide, by decide, by decide, by decide⟩
theorem sg_tok (o : List UInt8) (ho : o ∈ sgRow) (a b : Int) : SgT ⟨sgK o, ⟨o.toArray⟩, a, b, false⟩ :=
 have h := sg_tok0 o ho
 ⟨h.k2, h.yi, h.asy, h.aw, h.arr⟩
theorem sg_one0 : ∀ o ∈ sgRow, o ≠ [43, 43] → o ≠ [45, 45] → Sg1 ⟨sgK o, ⟨o.toArray⟩, 0, 0, false⟩ := by
 intro o ho h1 h2
 simp only [sgRow, List.mem_cons, List.not_mem_nil, or_false] at ho
 rcases ho with rfl | rfl | rfl | rfl | rfl | rfl | rfl | rfl | rfl <;> first | exact ⟨by decide, by decide, by decide⟩ | exact absurd rfl h1 | exact absurd rfl h2
theorem sg_two0 : ∀ o ∈ sgRow, (o = [43, 43] ∨ o = [45, 45]) → Sg2 ⟨sgK o, ⟨o.toArray⟩, 0, 0, false⟩ := by
 rintro o _ (rfl | rfl) <;> exact ⟨by decide, by decide⟩
def SgOk : List (List UInt8) → Prop
 | [] => True
 | o :: l => o ∈ sgRow ∧ ((o ≠ [43, 43] ∧ o ≠ [45, 45]) ∨ ((o = [43, 43] ∨ o = [45, 45]) ∧ l = [])) ∧ SgOk l
def sgX : List (List UInt8) → List UInt8
 | [] => [97, 46, 98]
 | o :: l => o ++ 32 :: sgX l
def baO (os : List (List UInt8)) : List ByteArray := os.map fun o => ⟨o.toArray⟩
theorem sg_sees {s : ByteArray} : ∀ (os : List (List UInt8)) (p : Nat), SgOk os → (s.data.toList.drop p = sgX os ∨ s.data.toList.drop p = 32 :: sgX os) → p ≤ s.size →
  ∃ ts : List Tk, SgR s (endT s.size) p ts ∧ ts.map (·.text) = baO os ∧ ts.length = os.length
 | [], p, _, hd, hp => by
  obtain ⟨q, fr, q1, q2, q3⟩ := sees_at (a := [97]) (l := [46, 98]) (kind := 1) hd hp (ink0_of (by decide) (by decide) (by decide) (by decide)) (fun g hg => plain_word (a := []) (l := [46, 98]) (by decide) (low_start (by decide)) (fun x hx => by cases hx) (by rfl) (by decide))
  have d1 : s.data.toList.drop q = [46] ++ [98] := q2
  have s2 := sees_adj (g := 1) (.inl rfl) (a := [46]) (l := [98]) (kind := 5) d1 q1 (ink0_of (by decide) (by decide) (by decide) (by decide)) (plain_dot (by decide))
  have d2 : s.data.toList.drop (q + 1) = [98] ++ [] := tx_app d1
  have q4 : q + 1 ≤ s.size := tx_fits d1 q1
  have s3 := sees_adj (g := 1) (.inl rfl) (a := [98]) (l := []) (kind := 1) d2 q4 (ink0_of (by decide) (by decide) (by decide) (by decide)) (plain_word (a := []) (l := []) (by decide) (low_start (by decide)) (fun x hx => by cases hx) (by rfl) (by decide))
  have d3 : s.data.toList.drop (q + 2) = [] := tx_app d2
  have q5 : q + 2 ≤ s.size := tx_fits d2 q4
  have e : q + 2 = s.size := by
   have h := congrArg List.length d3
   rw [List.length_drop, List.length_nil] at h
   have h2 : s.data.toList.length = s.size := Array.length_toList
   omega
  have s4 : Sees s 1 ((q + 2 : Nat) : Int) (endT (q + 2)) := sees_end (.inl rfl) d3 q5
  rw [e] at s4
  refine ⟨[], ⟨⟨1, ⟨#[97]⟩, fr, (q : Int), false⟩, _, _, ⟨nm_a.kind, nm_a.res, nm_a.aw, nm_a.asy, nm_a.sl⟩, q3 2 (.inr rfl), q3 1 (.inl rfl), s2, rfl, s3, rfl, ?_, rfl, rfl⟩, rfl, rfl⟩
  show Sees s 1 ((q + 2 : Nat) : Int) _
  rw [e]
  exact s4
 | o :: os, p, ho, hd, hp => by
  obtain ⟨h1, h2, h3⟩ := ho
  obtain ⟨q, fr, q1, q2, q3⟩ := sees_at (a := o) (l := 32 :: sgX os) (kind := sgK o) hd hp (sg_ink o h1 _) (fun g hg => sg_plain o h1 _ g hg)
  obtain ⟨ts, t1, t2, t3⟩ := sg_sees os q h3 (.inr q2) q1
  refine ⟨_ :: ts, ⟨q3 2 (.inr rfl), q3 1 (.inl rfl), sg_tok o h1 _ _, ?_, t1⟩, by rw [List.map_cons, t2]; rfl, by rw [List.length_cons, List.length_cons, t3]⟩
  rcases h2 with ⟨a, b⟩ | ⟨a, rfl⟩
  ·have h := sg_one0 o h1 a b
   exact .inl ⟨h.1, h.2.1, h.2.2⟩
  ·have h := sg_two0 o h1 a
   refine .inr ⟨⟨h.1, h.2⟩, ?_⟩
   cases ts with
   | nil => rfl
   | cons x t => rw [List.length_cons, List.length_nil] at t3; cases t3
theorem signs_is {s : ByteArray} (os : List (List UInt8)) (ho : SgOk os) (hl : os.length ≤ 30) (hs : s.data.toList = sgX os) : ∃ n q, exprQ s false (0 + os.length + 11) = .ok n q ∧ bareNd n = sgN (baO os) ∧ ndSize n ≤ 33 := by
 obtain ⟨ts, t1, t2, t3⟩ := sg_sees (s := s) os 0 ho (.inl hs) (Nat.zero_le _)
 have h := expr_sg 0 ts t1 (by omega)
 rw [t2, t3] at h
 exact h
end
section
open Go.RowKit
theorem WSt.first {w0 w : World} (hb : Below w0.heap.size w0 w) {ns : List Kd} (hn : ∀ x ∈ ns, x.1.kids.length ≤ x.2.2 ∧ RowA w (w.heap.size + 1) w.heap.size x.1.kids x.2.1) {m : Nat} (hm : ns.length = m) (k : Int) (t : ByteArray) :
  WSt w0 (w.heap.size + 1) (.mk k t (ns.map (·.1)) 0 0) ((w.alloc (.cells (ns.flatMap cells5).toArray 31)).alloc (.cells #[.int .i64 k, .string t, .slice (some ⟨w.heap.size, 0, none⟩) m m, .int .i64 0, .int .i64 0] 31)) := by
 subst hm
 have hnew := heap_alloc_new (w.alloc (.cells (ns.flatMap cells5).toArray 31)) (.cells #[.int .i64 k, .string t, .slice (some ⟨w.heap.size, 0, none⟩) ns.length ns.length, .int .i64 0, .int .i64 0] 31)
 rw [World.size_alloc] at hnew
 refine ⟨⟨some ⟨w.heap.size, 0, none⟩, ns.length, ?_, ?_, ?_⟩, (hb.alloc hb.size _).alloc (by rw [World.size_alloc]; have := hb.size; omega) _, by have := hb.size; omega⟩
 ·show NdBoxV _ _ k t (.slice _ (ns.map (·.1)).length _) 0 0
  rw [List.length_map]
  exact hnew
 ·show (ns.map (·.1)).length ≤ _
  rw [List.length_map]
  exact Nat.le_refl _
 ·exact (RowA.new (w := w) (W := w.alloc (.cells (ns.flatMap cells5).toArray 31)) ns hn (by omega) (heap_alloc_new _ _) fun k hk _ => Below.heap_alloc _ _ _ hk).bel (fun k hk _ => Below.heap_alloc _ _ _ (by rw [World.size_alloc]; exact hk)) (by rw [World.size_alloc, World.size_alloc]; omega)
theorem sgX_len : ∀ os : List (List UInt8), SgOk os → (sgX os).length ≤ 8 * os.length + 3
 | [], _ => Nat.le_refl _
 | o :: os, h => by
  have h1 := sgX_len os h.2.2
  have h2 : ∀ x ∈ sgRow, x.length ≤ 7 := by decide
  have h3 := h2 o h.1
  rw [sgX, List.length_append, List.length_cons, List.length_cons]
  omega
theorem sg_two : ∀ o ∈ sgRow, o.length = 2 → o = [43, 43] ∨ o = [45, 45] := by decide
theorem sg_one : ∀ o ∈ sgRow, o.length ≠ 2 → o ≠ [43, 43] ∧ o ≠ [45, 45] := by decide
def SgRel (w : World) (g r len : Nat) (s i : Value) (wr : World) : Prop := ∃ (j : Nat) (os : List (List UInt8)) (S : ByteArray), j ≤ len ∧ j ≤ 30 ∧ os.length ≤ j ∧ i = .int .i64 j ∧ s = .string S ∧ S.data.toList = sgX os ∧ SgOk os ∧ WSt w r (sgN (baO os)) wr ∧ StrS g sgRow wr
theorem one_ok {w : World} {r : Nat} {n : Nd} {b : Option Addr} {c : Nat} (h : WBox w r n b c) : ∀ y ∈ ([(n, b, c)] : List Kd), y.1.kids.length ≤ y.2.2 ∧ RowA w r w.heap.size y.1.kids y.2.1 := by
 intro y hy
 rw [List.mem_singleton.1 hy]
 exact ⟨h.cap, h.row⟩
theorem sg_up {x : List UInt8} {t : ByteArray} (hx : x ∈ sgRow) (h2 : t.size = 2) (ht : t.size = x.length) : SgOk [x] := ⟨hx, .inr ⟨sg_two x hx (by omega), rfl⟩, trivial⟩
theorem sg_un {x : List UInt8} {t : ByteArray} {os : List (List UInt8)} (hx : x ∈ sgRow) (h2 : ¬ t.size = 2) (ht : t.size = x.length) (ho : SgOk os) : SgOk (x :: os) := ⟨hx, .inl (sg_one x hx (by omega)), ho⟩
theorem sg_tree2 {x : List UInt8} {t : ByteArray} (he : (⟨x.toArray⟩ : ByteArray) = t) (hx : x ∈ sgRow) (h2 : t.size = 2) (ht : t.size = x.length) : sgN (baO [x]) = .mk 28 (t ++ ⟨#[120]⟩) [sgN (baO [])] 0 0 := by
 show sgN [⟨x.toArray⟩] = _
 rw [he, sgN, if_pos]
 ·rfl
 ·rw [← he]
  rcases sg_two x hx (by omega) with rfl | rfl
  ·exact .inl rfl
  ·exact .inr rfl
theorem sg_tree1 {x : List UInt8} {t : ByteArray} {os : List (List UInt8)} (he : (⟨x.toArray⟩ : ByteArray) = t) (h2 : ¬ t.size = 2) : sgN (baO (x :: os)) = .mk 27 t [sgN (baO os)] 0 0 := by
 have h3 : ∀ a b : UInt8, t ≠ ⟨#[a, b]⟩ := by
  rintro a b rfl
  exact h2 rfl
 show sgN (⟨x.toArray⟩ :: baO os) = _
 rw [he, sgN, if_neg (by rintro (h | h); exact h3 _ _ h; exact h3 _ _ h)]
set_option maxRecDepth 100000 in
set_option maxHeartbeats 16000000 in
theorem signs_any (ao : Option Addr) (len cap : Nat) (w : World) (hc : IntsArg w ao len) (hl : len ≤ 33554432) (hx : Lx w) :
  Calls Tryz.prog 5 #[.slice ao len cap] w fun e w' => e = .returned (.bool true) ∧ Below w.heap.size w w' := by
 have HC := Lib.hid hc
 have HX := Lib.hid hx
 clear hc hx
 go_enter Tryz.func5, Tryz.ntmps5
 go_wp2_with fail
 refine (awake_any w HX.out).mono ?_
 rintro e w1 ⟨rfl, hb1⟩
 go_upto_region 4 with fail
 have hr1 : StrS w1.heap.size sgRow (w1.alloc (.cells #[.string ⟨#[45]⟩, .string ⟨#[43]⟩, .string ⟨#[33]⟩, .string ⟨#[126]⟩, .string ⟨#[116, 121, 112, 101, 111, 102]⟩, .string ⟨#[118, 111, 105, 100]⟩, .string ⟨#[100, 101, 108, 101, 116, 101]⟩, .string ⟨#[43, 43]⟩, .string ⟨#[45, 45]⟩] 9)) := StrS.new w1 sgRow 9
 have hb2 : Below w.heap.size w (w1.alloc (.cells #[.string ⟨#[45]⟩, .string ⟨#[43]⟩, .string ⟨#[33]⟩, .string ⟨#[126]⟩, .string ⟨#[116, 121, 112, 101, 111, 102]⟩, .string ⟨#[118, 111, 105, 100]⟩, .string ⟨#[100, 101, 108, 101, 116, 101]⟩, .string ⟨#[43, 43]⟩, .string ⟨#[45, 45]⟩] 9)) := hb1.alloc hb1.size _
 generalize World.alloc w1 _ = w2 at *
 generalize w1.heap.size = g at *
 clear hb1
 go_wp2_with fail
 refine (ident_any _ _).mono ?_
 rintro e w3 ⟨rfl, hb3⟩
 go_wp2_with fail
 refine (ident_any _ _).mono ?_
 rintro e w4 ⟨rfl, hb4⟩
 have hr4 := (hr1.bel hb3).bel hb4
 have hb5 := bel_next (bel_next hb2 hb3) hb4
 have hgr : g ≠ w4.heap.size + 1 := by have := hr4.1; omega
 clear hr1 hb2 hb3 hb4
 go_upto_region 6 with fail
 have hs : WSt w (w4.heap.size + 1) (sgN (baO [])) ((w4.alloc (.cells #[.int .i64 1, .string ⟨#[97]⟩, .slice none 0 0, .int .i64 0, .int .i64 0, .int .i64 1, .string ⟨#[98]⟩, .slice none 0 0, .int .i64 0, .int .i64 0] 31)).alloc (.cells #[.int .i64 38, .string ⟨#[]⟩, .slice (some ⟨w4.heap.size, 0, none⟩) 2 2, .int .i64 0, .int .i64 0] 31)) := WSt.first hb5 (ns := [(.mk 1 ⟨#[97]⟩ [] 0 0, none, 0), (.mk 1 ⟨#[98]⟩ [] 0 0, none, 0)]) (fun x hx => by simp at hx; rcases hx with rfl | rfl <;> exact ⟨Nat.le_refl _, RowA.nil _ _ _ _⟩) rfl 38 ⟨#[]⟩
 have HS := Lib.hid hs
 have HR := Lib.hid ((hr4.bel (alloc_bel w4 (.cells #[.int .i64 1, .string ⟨#[97]⟩, .slice none 0 0, .int .i64 0, .int .i64 0, .int .i64 1, .string ⟨#[98]⟩, .slice none 0 0, .int .i64 0, .int .i64 0] 31))).bel (alloc_bel _ (.cells #[.int .i64 38, .string ⟨#[]⟩, .slice (some ⟨w4.heap.size, 0, none⟩) 2 2, .int .i64 0, .int .i64 0] 31)))
 generalize World.alloc (World.alloc w4 _) _ = w5 at *
 generalize w4.heap.size + 1 = r at *
 clear hr4 hb5 hs
 go_wp2_with fail
 go_loopw [4, 6, 7] (fun s i _ wr => SgRel w g r len s i wr) (fun _ i _ _ => 30 - (intOf i).toNat)
 case atStart => exact ⟨0, [], ⟨#[97, 46, 98]⟩, Nat.zero_le _, Nat.zero_le _, Nat.le_refl _, rfl, rfl, rfl, trivial, HS.out, HR.out⟩
 case round =>
  clear HS HR
  obtain ⟨j, os, S, hj, hj30, hoj, rfl, rfl, hS, hok, hst, hrow⟩ := hrel
  have hSs : S.size ≤ 300 := by rw [ba_size hS]; have := sgX_len os hok; omega
  have HST := Lib.hid hst
  have HRW := Lib.hid hrow
  have HS := Lib.hid hS
  have HOK := Lib.hid hok
  obtain ⟨wb, wc, hbx⟩ := hst.ex
  have HB := Lib.hid hbx
  have hrl := hbx.box.lt
  by_cases hlt : j < len ∧ j < 30
  ·obtain ⟨hlt, hlt30⟩ := hlt
   obtain ⟨b, off, rfl, hb, z, hz⟩ := HC.out j hlt
   rw [← hst.bel.cell (p := ⟨b, off + j, none⟩) hb] at hz
   obtain ⟨a, ha, ha2⟩ := pickN z 9 (by decide)
   replace ha : (IntKind.u64.wrap z).tmod 9 = (a : Int) := ha
   obtain ⟨x, hx⟩ : ∃ x, sgRow[a]'ha2 = x := ⟨_, rfl⟩
   have hxm : x ∈ sgRow := hx ▸ List.getElem_mem _
   have cx := hrow.2 a ha2
   have hxl : x.length ≤ 7 := (show ∀ x ∈ sgRow, x.length ≤ 7 by decide) x hxm
   rw [hx] at cx
   obtain ⟨t, ht⟩ : ∃ t : ByteArray, (⟨x.toArray⟩ : ByteArray) = t := ⟨_, rfl⟩
   rw [ht] at cx
   have htl : t.data.toList = x := by rw [← ht]
   have hts : t.size = x.length := ba_size htl
   have hts2 : t.size ≤ 7 := by omega
   have HTL := Lib.hid htl
   have HTS := Lib.hid hts
   have HT := Lib.hid ht
   have HXM := Lib.hid hxm
   have la : IntKind.i64.wrap (a : Int) = a := by rw [IntKind.wrap_i64]; omega
   have na : (0 : Int) ≤ (a : Int) := by omega
   have ma : (a : Int) < 9 := by omega
   have hfc := NdBoxV.facts hbx.box
   have HF := Lib.hid hfc
   clear hst hrow hS hok hx hxm htl ht hxl hts hfc hbx
   by_cases h2 : t.size = 2
   ·have h2e : ((t.size : Int) == 2) = true := by rw [h2]; rfl
    have H2 := Lib.hid h2
    clear h2
    by_cases h0 : 0 < j
    ·go_wp2_with fail
     go_roundw
     case rel => exact ⟨j + 1, os, S, hlt, by omega, by omega, by go_num, rfl, HS.out, HOK.out, HST.out, HRW.out⟩
     case measure => simp [intOf]; omega
    ·obtain rfl : os = [] := List.length_eq_zero_iff.1 (by omega)
     go_upto_region 12 with fail
     obtain ⟨x0, x1, x2, x3, x4, y0, y1, y2, y3, y4⟩ := HF.out
     go_wp2_with fail
     go_roundw
     case rel => exact ⟨j + 1, [x], _, hlt, by omega, by simp, by go_num, rfl, by simp [ByteArray.data_append, HTL.out, HS.out, sgX], sg_up HXM.out H2.out HTS.out, by rw [sg_tree2 HT.out HXM.out H2.out HTS.out]; exact HST.out.over2 HB.out (ns := [(sgN (baO []), wb, wc)]) (one_ok HB.out) 28 (t ++ ⟨#[120]⟩) rfl, (HRW.out.lay hgr _ _ _ _ _).bel (alloc_bel _ _)⟩
     case measure => simp [intOf]; omega
   ·have h2e : ((t.size : Int) == 2) = false := beq_eq_false_iff_ne.2 (by omega)
    have H2 := Lib.hid h2
    clear h2
    go_upto_region 13 with fail
    obtain ⟨x0, x1, x2, x3, x4, y0, y1, y2, y3, y4⟩ := HF.out
    go_wp2_with fail
    go_roundw
    case rel => exact ⟨j + 1, x :: os, _, hlt, by omega, by rw [List.length_cons]; omega, by go_num, rfl, by simp [ByteArray.data_append, HTL.out, HS.out, sgX], sg_un HXM.out H2.out HTS.out HOK.out, by rw [sg_tree1 HT.out H2.out]; exact HST.out.over2 HB.out (ns := [(sgN (baO os), wb, wc)]) (one_ok HB.out) 27 t rfl, (HRW.out.lay hgr _ _ _ _ _).bel (alloc_bel _ _)⟩
    case measure => simp [intOf]; omega
  ·have hend : j = len ∨ (j = 30 ∧ 30 < len) := by omega
   obtain ⟨n, q, hE, hz1, hz2⟩ := signs_is os hok (by omega) hS
   have hbt := bareT_of (n := n) (by omega)
   have HI := Lib.hid (fun W hb => same_is (0 + os.length + 11) (by omega) (by omega) hE (by omega) (by rw [hbt]; exact Nat.le_trans (bare_size n) (by omega)) (sgN (baO os)) _ 0 wr.heap.size W (NdV_bel hbx.v hb) hb.size (HX.out.bel (bel_next hst.bel hb)))
   obtain ⟨x0, x1, x2, x3, x4, y0, y1, y2, y3, y4⟩ := NdBoxV.facts hbx.box
   have hTrue : sameNd (bareT n) (sgN (baO os)) = true := by rw [hbt, hz1]; exact sameNd_refl _
   rw [hTrue] at HI
   clear hst hrow hS hok hbx hE hz1 hz2 hbt hTrue HC
   rcases hend with rfl | ⟨rfl, hl30⟩
   all_goals
    go_wp2_with fail
    refine (HI.out _ (Below.refl _ _)).mono ?_
    rintro e w6 ⟨rfl, hb6⟩
    go_wp2_with fail
    go_ret
    exact ⟨rfl, bel_next HST.out.bel hb6⟩
end
section
theorem upto_mem {H : Type} {d : DataW H} {l : List (DataW H)} (hk : Rows.uptoSmall H l = true) (h : d ∈ l) : Rows.uptoBulk d ≤ 1048576 := by
 have hk' : Rows.uptoBulkAll l ≤ 1048576 := by simpa [Rows.uptoSmall] using hk
 refine Nat.le_trans ?_ hk'
 clear hk hk'
 induction l with
 | nil => cases h
 | cons x r ih =>
  simp only [Rows.uptoBulkAll]
  rcases List.mem_cons.1 h with e | e
  ·subst e; omega
  ·have := ih e; omega
end
end Go.Proofs.YtfnjjgmhjbhclaaGreatDoor
