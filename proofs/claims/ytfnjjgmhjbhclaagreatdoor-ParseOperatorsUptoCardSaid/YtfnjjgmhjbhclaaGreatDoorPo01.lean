/- What the card needs beyond the base: the plain law, the law's contracts. Conditions: what a law leans on. -/
import Derived.Test.YtfnjjgmhjbhclaaGreatDoorPn26
import Derived.Test.YtfnjjgmhjbhclaaGreatDoorPn30
import Derived.Laws.AppendOwnNone
import Derived.BigQuiet
import Derived.Deep.DrawnRows
import Derived.Test.YtfnjjgmhjbhclaaGreatDoorRows
namespace Go.Proofs.YtfnjjgmhjbhclaaGreatDoor
section
open Go.RowKit
theorem sameNd_refl (a : Nd) : sameNd a a = true := by
 induction a using Nd.ind with
 | h n ih => exact (sameNd_iff n n).2 ⟨rfl, rfl, rfl, fun i h _ => ih _ (List.getElem_mem h)⟩
end
section
open Go.RowKit
def opsV : Array Value := ((opsL.take 24).map Value.string).toArray
theorem operators_any (w : World) : Calls Tryz.prog 9 #[] w fun e w' => e = .returned (.slice (some ⟨w.heap.size, 0, none⟩) 24 24) ∧ w' = w.alloc (.cells opsV 9) := by
 go_enter Tryz.func9, Tryz.ntmps9
 go_wp2_with fail
 go_ret
 exact ⟨rfl, rfl⟩
theorem infoStr : (Tryz.prog.info? 9).map (fun i => (i.zero, i.size, i.bytes)) = some (some (.string ⟨#[]⟩), 1, 16) := by kernel_rfl
end
section
open Go.RowKit
def dc2 (y : Nat) : List UInt8 := if y = 0 then [] else if y < 10 then [UInt8.ofNat (48 + y)] else [UInt8.ofNat (48 + y / 10), UInt8.ofNat (48 + y % 10)]
def dcl (i : Nat) : List UInt8 := if i = 0 then [48] else dc2 i
theorem dcl_row : ∀ i : Fin 100, (dcl i.val).length ≤ 2 ∧ dcl i.val ≠ [] ∧ ∀ c ∈ dcl i.val, 48 ≤ c.toNat ∧ c.toNat ≤ 57 := by decide +kernel
theorem infoByte8 : (Tryz.prog.info? 5).map (fun i => (i.zero, i.size, i.bytes)) = some (some (.int .u8 0), 1, 1) := by kernel_rfl
theorem string_own {w : World} {B : Nat} {v : Value} {l : List UInt8} (h : w.ownsRow B 5 1 v l.length (Lib.byteCells l)) : (convert 44 9 v).run Tryz.prog w = .ok (.string ⟨l.toArray⟩) w := by
 have hb := h
 rcases h.2 with ⟨rfl, h0⟩ | ⟨g, cap, cur, rfl, _⟩
 ·rw [List.length_eq_zero_iff.1 h0]
  exact run_convert_bytes_nil w 44 5 (by kernel_rfl) (by kernel_rfl) 0 0 9 (by kernel_rfl)
 ·refine run_convert_bytes_back w 44 9 5 ⟨g, 0, none⟩ cap l (by kernel_rfl) (by kernel_rfl) (by kernel_rfl) fun j hj => ?_
  refine hb.cells (g := g) rfl j _ ?_
  simp [Lib.byteCells, List.getElem?_eq_getElem hj]
theorem byte_cells (l : List UInt8) : ∀ u ∈ Lib.byteCells l, u.oneCell' = true := by
 intro u hu
 simp only [Lib.byteCells, List.mem_map] at hu
 obtain ⟨b, _, rfl⟩ := hu
 rfl
def DRel (n y : Nat) (l : List UInt8) : Prop := (l = [] ∧ y = n) ∨ (l ≠ [] ∧ dc2 y ++ l = dcl n)
theorem dig_b (y : Nat) : (UInt8.ofNat (48 + y % 10)).toNat = 48 + y % 10 := by
 rw [UInt8.toNat_ofNat']
 omega
theorem drel_step {n y : Nat} {l : List UInt8} (h : DRel n y l) (hy : 0 < y ∨ l = []) (hn : y < 100) : DRel n (y / 10) (UInt8.ofNat (48 + y % 10) :: l) := by
 refine .inr ⟨by simp, ?_⟩
 have h1 : 0 < y → dc2 (y / 10) ++ UInt8.ofNat (48 + y % 10) :: l = dc2 y ++ l := by
  intro h0
  by_cases h10 : y < 10
  ·rw [Nat.div_eq_of_lt h10, Nat.mod_eq_of_lt h10]
   unfold dc2
   rw [if_pos rfl, if_neg (by omega), if_pos h10]
   rfl
  ·have e1 : ¬ y / 10 = 0 := by omega
   have e2 : y / 10 < 10 := by omega
   unfold dc2
   rw [if_neg e1, if_pos e2, if_neg (by omega), if_neg h10]
   rfl
 rcases h with ⟨rfl, rfl⟩ | ⟨h2, h3⟩
 ·by_cases h0 : 0 < y
  ·rw [h1 h0, List.append_nil]
   unfold dcl
   rw [if_neg (by omega)]
  ·have : y = 0 := by omega
   subst this
   rfl
 ·rw [h1 (hy.resolve_right h2)]
  exact h3
theorem drel_done {n : Nat} {l : List UInt8} (h : DRel n 0 l) (hl : l ≠ []) : l = dcl n := by
 rcases h with ⟨h1, _⟩ | ⟨_, h2⟩
 ·exact absurd h1 hl
 ·exact h2
theorem drel_len {n y : Nat} {l : List UInt8} (h : DRel n y l) (hn : n < 100) : l.length ≤ 2 := by
 rcases h with ⟨rfl, _⟩ | ⟨_, h2⟩
 ·simp
 ·have h3 := (dcl_row ⟨n, hn⟩).1
  simp only at h3
  rw [← h2, List.length_append] at h3
  omega
def DecRel (n : Nat) (w wr : World) (y : Nat) (out : Value) : Prop :=
 ∃ l : List UInt8, DRel n y l ∧ wr.ownsRow w.heap.size 5 1 out l.length (Lib.byteCells l) ∧ Below w.heap.size w wr ∧ (l = [] → out = .slice none 0 0)
theorem dig_cell8 (y : Nat) : Value.int .u8 (48 + (y : Int) % 10) = Value.int .u8 ((UInt8.ofNat (48 + y % 10)).toNat : Int) := by
 rw [dig_b]
 congr 1
def nilN8 : Value → Nat
 | .slice none _ _ => 1
 | _ => 0
theorem nil_own8 {w : World} {base size n : Nat} {e : TypeId} {v : Value} {xs : List Value} (h : w.ownsRow base e size v n xs) (hn : 0 < n) : nilN8 v = 0 := by
 rcases h.2 with ⟨_, h0⟩ | ⟨g, cap, cur, rfl, _⟩
 ·omega
 ·rfl
theorem dec_first {x y : Nat} {w wr : World} {l : List UInt8} (h : DRel x y l) (hl : l = []) (hb : Below w.heap.size w wr) (hn : y < 100) :
  DecRel x w (wr.alloc (.cells #[.int .u8 (48 + (y : Int) % 10)] 5)) (y / 10) (.slice (some ⟨wr.heap.size, 0, none⟩) 1 1) := by
 refine ⟨_, drel_step h (.inr hl) hn, ?_, Below.alloc hb hb.size _, fun e => by cases e⟩
 subst hl
 have := World.ownsRow_lit (base := w.heap.size) (e := 5) (size := 1) wr #[.int .u8 (48 + (y : Int) % 10)] 1 hb.size (by decide) rfl
 rw [dig_cell8] at this ⊢
 exact this
theorem dec_next {x y : Nat} {w wr w1 : World} {l : List UInt8} {v : Value} (h : DRel x y l) (hy : 0 < y ∨ l = []) (hn : y < 100) (hb : Below w.heap.size w wr)
  (ho : w1.ownsRow wr.heap.size 5 1 v (1 + l.length) ([.int .u8 (48 + (y : Int) % 10)] ++ Lib.byteCells l)) (hg : (wr.alloc (.cells #[.int .u8 (48 + (y : Int) % 10)] 5)).grownBy w1 (some wr.heap.size)) :
  DecRel x w w1 (y / 10) v := by
 refine ⟨_, drel_step h hy hn, ?_, ?_, fun e => by cases e⟩
 ·have := own_le ho hb.size
  rw [dig_cell8] at this
  rw [List.length_cons, Nat.add_comm]
  exact this
 ·refine (hb.alloc hb.size _).grown hg ?_ ?_
  ·rw [World.size_alloc]; have := hb.size; omega
  ·intro k hk
   cases hk
   exact hb.size
set_option maxRecDepth 100000 in
set_option maxHeartbeats 1000000 in
theorem decimal100 (x : Nat) (hx : x < 100) (w : World) : Calls Tryz.prog 10 #[.int .i64 (x : Int)] w fun e w' => e = .returned (.string ⟨(dcl x).toArray⟩) ∧ Below w.heap.size w w' := by
 obtain ⟨i0, hi, hz0, hz1, hz2⟩ := info_parts infoByte8
 go_enter Tryz.func10, Tryz.ntmps10
 go_wp2
 go_loopw [3, 4] (fun n out wr => ∃ y : Nat, y ≤ x ∧ n = .int .u64 y ∧ DecRel x w wr y out) (fun n out _ => (intOf n).toNat * 2 + nilN8 out)
 case atStart => exact ⟨x, Nat.le_refl _, by go_num, [], .inl ⟨rfl, rfl⟩, World.ownsRow_nil _ _ _ _, Below.refl _ _, fun _ => rfl⟩
 case round =>
  obtain ⟨y, hy, rfl, l, hd, hown, hbel, hnil⟩ := hrel
  have HD := Lib.hid hd
  have hlen : l.length ≤ 2 := drel_len hd (by omega)
  clear hd
  rcases hown.2 with ⟨rfl, h0⟩ | ⟨g, cap, cur, rfl, hgb, hgc, hnc, hcm, hcs, htk⟩
  ·have h0 : l = [] := List.length_eq_zero_iff.1 h0
   have H0 := Lib.hid h0
   clear h0 hown
   by_cases hy0 : y = 0
   ·subst hy0
    go_wp2_with fail
    go_roundw
    case rel => exact ⟨0, by omega, rfl, dec_first HD.out H0.out hbel (by decide)⟩
    case measure => show _ < _; simp [intOf, nilN8]
   ·have hpos : 0 < y := by omega
    go_wp2_with fail
    go_roundw
    case rel => exact ⟨y / 10, by omega, by go_num, dec_first HD.out H0.out hbel (by omega)⟩
    case measure => simp [intOf, nilN8]; omega
  ·clear hgc hnc hcm hcs htk
   by_cases hy0 : y = 0
   ·subst hy0
    have hl : l ≠ [] := fun e => by have := hnil e; cases this
    have hpos : 0 < l.length := List.length_pos_iff.2 hl
    have hstr := string_own hown
    have HT := Lib.hid (drel_done HD.out hl)
    clear hnil hl HD
    go_wp2_with fail
    go_ret
    exact ⟨by rw [← HT.out]; rfl, hbel⟩
   ·clear hnil
    have hpos : 0 < y := by omega
    go_wp2_with (at_builtin; (refine wpList_append_own_at _ rfl _ _ 44 rfl wr.heap.size 5 i0 (.int .u8 0) 1 1 (by kernel_rfl) hi hz0 hz1 hz2 rfl (by decide) _ 1 [.int .u8 (48 + (y : Int) % 10)] rfl (World.ownsRow_lit wr #[.int .u8 (48 + (y : Int) % 10)] 1 (Nat.le_refl _) (by decide) rfl) ⟨g, 0, none⟩ l.length cap (Lib.byteCells l) rfl (by simp [Lib.byteCells]) ((hown.alloc _).cells rfl) (byte_cells l) (by unfold maxLen; omega) (by omega) (by rw [World.size_alloc]; omega) ?_))
    intro v' w1 hown' hgrow _ _
    have HR := Lib.hid (dec_next HD.out (.inl hpos) (by omega) hbel hown' hgrow)
    have HN := Lib.hid (nil_own8 hown' (by omega))
    clear hown hown' hgrow hbel
    go_wp2_with fail
    go_roundw
    case rel => exact ⟨y / 10, by omega, by go_num, HR.out⟩
    case measure => rw [HN.out]; simp [intOf, nilN8]; omega
end
section
open Go.RowKit
def Zs (i : Int) (t : Tk) (g fl ne ar : Int) : Ps := ⟨i, t, [], g, [], fl, ne, ar, []⟩
section
variable {s : ByteArray} {g g' i fl ne ar : Int} {t tk : Tk}
theorem peek_new (h : Sees s g i t) : peekP s g (Zs i tk 0 fl ne ar) = .ok t (Zs i t g fl ne ar) := by
 obtain ⟨h0, h1, q, n, h2, h3⟩ := h
 unfold peekP cachedB Zs
 rw [if_neg (by simp)]
 unfold freshP
 simp only
 rw [if_neg (by omega), h2]
 simp only
 rw [h3]
theorem peek_old (hg : g ≠ 0) : peekP s g (Zs i t g fl ne ar) = .ok t (Zs i t g fl ne ar) := by
 unfold peekP cachedB Zs
 rw [if_pos (by simp [hg])]
theorem peek_12 (h1 : g' ≠ 0) (h2 : g' ≤ 2) (h3 : g ≤ 2) (hs : slashT t = false) : peekP s g (Zs i t g' fl ne ar) = .ok t (Zs i t g' fl ne ar) := by
 unfold slashT at hs
 unfold peekP cachedB Zs
 rw [if_pos (by simp [h1, h2, h3, hs])]
theorem take_z : takeP (Zs i t g fl ne ar) = .ok t (Zs t.till t 0 fl ne ar) := rfl
theorem look_z (h : Sees s 1 i t) (p : Ps) : lookP s i p = .ok t p := by
 obtain ⟨h0, h1, q, n, h2, h3⟩ := h
 unfold lookP lookT
 rw [if_neg (by omega), h2]
 simp only
 rw [h3]
 rfl
theorem is_no {x : ByteArray} (hp : peekP s 1 (Zs i tk g' fl ne ar) = .ok t (Zs i t g fl ne ar)) (h : punctT t x = false) : isP s x (Zs i tk g' fl ne ar) = .ok false (Zs i t g fl ne ar) := by
 unfold isP
 rw [PM.go hp, if_neg (by rw [h]; decide)]
 rfl
end
theorem nameT_ne {t : Tk} {x : ByteArray} (h : t.text ≠ x) : nameT t x = false := by
 unfold nameT
 rw [decide_eq_false h, Bool.and_false]
section
variable {s : ByteArray} {m : Bool} {g i fl ne ar : Int} {t u tk : Tk}
theorem named_z (f : Nat) (h : Nm t) (hg : g = 1 ∨ g = 2) : runQ s m (f + 1) (.named t) (Zs i t g fl ne ar) = .ok (leafN 1 t) (Zs t.till t 0 fl ne ar) := by
 show namedS s m (runQ s m f) t _ = _
 have h1 : oneOf t.text [⟨#[116, 104, 105, 115]⟩, ⟨#[110, 117, 108, 108]⟩, ⟨#[116, 114, 117, 101]⟩, ⟨#[102, 97, 108, 115, 101]⟩] = false := by
  unfold oneOf
  rw [List.any_eq_false]
  intro x hx
  simp only [List.mem_cons, List.not_mem_nil, or_false] at hx
  rcases hx with rfl | rfl | rfl | rfl <;> (rw [decide_eq_false (h.ne (by decide))]; decide)
 unfold namedS
 rw [if_neg (by rw [h1]; decide), if_neg (h.ne (by decide)), if_neg (h.ne (by decide)), if_neg h.asy]
 unfold takeIdentP
 have hp : peekP s 1 (Zs i t g fl ne ar) = .ok t (Zs i t g fl ne ar) := peek_12 (by omega) (by omega) (by omega) h.sl
 rw [PM.go hp]
 show (if identB m fl t then _ else _ : PM Nd) _ = _
 rw [if_pos (h.ident m fl), PM.go take_z]
 rfl
theorem base_z (f : Nat) (h : Nm t) (hg : g = 1 ∨ g = 2) (calls : Bool) : runQ s m (f + 3) (.base t calls) (Zs i t g fl ne ar) = .ok (leafN 1 t) (Zs t.till t 0 fl ne ar) := by
 show baseS s m (runQ s m (f + 2)) t calls _ = _
 unfold baseS
 rw [if_neg (by rw [h.nameT (by decide)]; decide), if_neg (by rw [h.nameT (by decide)]; decide), if_neg (by rw [h.nameT (by decide)]; decide)]
 show primaryS (runQ s m (f + 1)) t _ = _
 have hk := h.kind
 unfold primaryS
 rw [if_neg (by omega), if_neg (by omega), if_neg (by omega), if_pos hk]
 exact named_z f h hg
theorem link_no (f : Nat) (n : Nd) (calls tmpl : Bool) (hu : Endy u) (hp : peekP s 1 (Zs i tk g fl ne ar) = .ok u (Zs i u 1 fl ne ar)) : runQ s m (f + 1) (.link n calls tmpl) (Zs i tk g fl ne ar) = .ok (n, false) (Zs i u 1 fl ne ar) := by
 show linkS s (runQ s m f) n calls tmpl _ = _
 unfold linkS
 rw [PM.go hp, if_neg (by rw [hu.dot]; decide), if_neg (by rw [hu.brk]; decide), if_neg (by rw [hu.par]; simp), if_neg (by have := hu.k7; have := hu.k8; omega)]
 rfl
theorem get_z (p : Ps) : getP p = .ok p p := rfl
theorem peek_self (hg : g = 1 ∨ g = 2) (hs : slashT t = false) {g2 : Int} (h2 : g2 ≤ 2) : peekP s g2 (Zs i t g fl ne ar) = .ok t (Zs i t g fl ne ar) := peek_12 (by omega) (by omega) h2 hs
theorem leaf_k (t : Tk) : ¬ (leafN 1 t).kind = 22 := by
 show ¬ (1 : Int) = 22
 decide
theorem left_z (f : Nat) {p : Ps} (h : Nm t) (hg : g = 1 ∨ g = 2) (hp : peekP s 2 p = .ok t (Zs i t g fl ne ar)) (hu : Endy u) (hs : Sees s 1 t.till u) :
  runQ s m (f + 4) .leftHand p = .ok (leafN 1 t) (Zs t.till u 1 fl ne ar) := by
 show leftHandS s (f + 3) (runQ s m (f + 3)) p = _
 unfold leftHandS
 rw [PM.go hp, PM.go (get_z _)]
 show (runQ s m (f + 3) (.base t true) >>= _) _ = _
 rw [PM.go (base_z f h hg true), if_neg (leaf_k t), if_neg (by rw [show decide ((leafN 1 t).text = ⟨#[97, 115, 121, 110, 99]⟩) = false from decide_eq_false h.asy]; simp)]
 unfold leftHandS.linkL
 rw [PM.go (peek_new hs), if_neg (by rw [hu.opt]; decide), PM.go (link_no (f + 2) (leafN 1 t) true true hu (peek_old (by decide))), if_neg (show ¬ ((false : Bool) = true) by decide)]
 rfl
theorem unary_z (f : Nat) {p : Ps} (h : Nm t) (hg : g = 1 ∨ g = 2) (hp : peekP s 2 p = .ok t (Zs i t g fl ne ar)) (hu : Endy u) (hs : Sees s 1 t.till u) :
  runQ s m (f + 5) .unary p = .ok (leafN 1 t) (Zs t.till u 1 fl ne ar) := by
 show unaryS s (runQ s m (f + 4)) p = _
 unfold unaryS
 rw [PM.go hp, if_neg (by rw [h.nameT (by decide), h.nameT (by decide), h.nameT (by decide), h.punctT, h.punctT, h.punctT, h.punctT]; decide), PM.go (get_z _), if_neg (by rw [nameT_ne h.aw]; simp), if_neg (by rw [h.punctT, h.punctT]; decide), PM.go (left_z f h hg (peek_self hg h.sl (by decide)) hu hs), if_neg (leaf_k t), PM.go (peek_old (by decide)), if_neg (by rw [hu.inc, hu.dec]; simp)]
 rfl
theorem operand_z (f : Nat) (least : Int) {p : Ps} (h : Nm t) (hg : g = 1 ∨ g = 2) (hp : peekP s 2 p = .ok t (Zs i t g fl ne ar)) (hu : Endy u) (hs : Sees s 1 t.till u) :
  runQ s m (f + 6) (.operand least) p = .ok (leafN 1 t) (Zs t.till u 1 fl ne ar) := by
 show operandS s (runQ s m (f + 5)) least p = _
 unfold operandS
 rw [PM.go hp, if_pos (by rw [h.kind]; decide)]
 exact unary_z f h hg (peek_self hg h.sl (by decide)) hu hs
end
end
section
open Go.RowKit
def cutL : Nat → ByteArray → Nat → List ByteArray → Nat
 | c, _, _, [] => c
 | c, b, i, o :: os => if levelB o < levelB b ∨ (levelB o = levelB b ∧ o ≠ ⟨#[42, 42]⟩) then cutL i o (i + 1) os else cutL c b (i + 1) os
def cutN : List ByteArray → Nat
 | [] => 0
 | o :: os => cutL 0 o 1 os
theorem cutL_stay : ∀ (os : List ByteArray) (c : Nat) (b : ByteArray) (i : Nat), (∀ x ∈ os, levelB b < levelB x ∨ (levelB b = levelB x ∧ x = ⟨#[42, 42]⟩)) → cutL c b i os = c
 | [], _, _, _, _ => by rw [cutL]
 | o :: os, c, b, i, h => by
  rw [cutL, if_neg, cutL_stay os c b (i + 1) fun x hx => h x (.tail _ hx)]
  rcases h o (.head _) with h1 | ⟨h1, h2⟩
  ·omega
  ·rintro (h3 | ⟨_, h3⟩)
   ·omega
   ·exact h3 h2
theorem cutL_pre (o : ByteArray) (mid : List ByteArray) (ho : o ≠ ⟨#[42, 42]⟩) (hm : ∀ x ∈ mid, levelB o < levelB x ∨ (levelB o = levelB x ∧ x = ⟨#[42, 42]⟩)) : ∀ (pre : List ByteArray) (c : Nat) (b : ByteArray) (i : Nat), levelB o ≤ levelB b → (∀ x ∈ pre, levelB o ≤ levelB x) → cutL c b i (pre ++ o :: mid) = i + pre.length
 | [], c, b, i, hb, _ => by
  rw [List.nil_append, cutL, if_pos, cutL_stay mid i o (i + 1) hm]
  ·rfl
  ·by_cases h : levelB o < levelB b
   ·exact .inl h
   ·exact .inr ⟨by omega, ho⟩
 | x :: pre, c, b, i, hb, hp => by
  rw [List.cons_append, cutL, List.length_cons]
  split
  ·rw [cutL_pre o mid ho hm pre i x (i + 1) (hp x (.head _)) fun y hy => hp y (.tail _ hy)]; omega
  ·rw [cutL_pre o mid ho hm pre c b (i + 1) hb fun y hy => hp y (.tail _ hy)]; omega
theorem cut_at {o : ByteArray} {pre mid : List ByteArray} (h : pre = [] ∨ (o ≠ ⟨#[42, 42]⟩ ∧ ∀ x ∈ pre, levelB o ≤ levelB x)) (hm : ∀ x ∈ mid, levelB o < levelB x ∨ (levelB o = levelB x ∧ x = ⟨#[42, 42]⟩)) : cutN (pre ++ o :: mid) = pre.length := by
 cases pre with
 | nil => exact cutL_stay mid 0 o 1 hm
 | cons x pre =>
  obtain ⟨ho, hp⟩ := h.resolve_left (by simp)
  show cutL 0 x 1 (pre ++ o :: mid) = _
  rw [cutL_pre o mid ho hm pre 0 x 1 (hp x (.head _)) fun y hy => hp y (.tail _ hy), List.length_cons]
  omega
inductive Tree : ByteArray → List (ByteArray × ByteArray) → Nd → Prop
 | nil (v : ByteArray) : Tree v [] (.mk 1 v [] 0 0)
 | cut (v : ByteArray) (pre : List (ByteArray × ByteArray)) (o w : ByteArray) (mid : List (ByteArray × ByteArray)) (a b : Nd) : cutN ((pre ++ (o, w) :: mid).map (·.1)) = pre.length → Tree v pre a → Tree w mid b → Tree v (pre ++ (o, w) :: mid) (.mk 29 o [a, b] 0 0)
theorem Tree.uniq {v : ByteArray} {l : List (ByteArray × ByteArray)} {a : Nd} (h : Tree v l a) : ∀ {b : Nd}, Tree v l b → a = b := by
 induction h with
 | nil v =>
  intro b hb
  generalize hl : ([] : List (ByteArray × ByteArray)) = l at hb
  cases hb with
  | nil => rfl
  | cut => simp at hl
 | cut v pre o w mid a b hc _ _ iha ihb =>
  intro n hn
  generalize hl : pre ++ (o, w) :: mid = l at hn
  cases hn with
  | nil => simp at hl
  | cut _ pre2 o2 w2 mid2 a2 b2 hc2 h1 h2 =>
   rw [hl] at hc
   obtain ⟨e1, e2⟩ := List.append_inj hl (hc.symm.trans hc2)
   injection e2 with e2 e3
   injection e2 with e2 e4
   subst e1 e2 e3 e4
   rw [iha h1, ihb h2]
structure Stp (u : Tk) : Prop where
 op : (decide (u.kind ≠ 5) && !nameT u ⟨#[105, 110, 115, 116, 97, 110, 99, 101, 111, 102]⟩ && !nameT u ⟨#[105, 110]⟩) = true ∨ levelB u.text = 0
 e : Endy u
section
variable {s : ByteArray}
theorem lastT_app : ∀ (a b : List (Tk × Tk)) (v : Tk), lastT v (a ++ b) = lastT (lastT v a) b
 | [], _, _ => rfl
 | x :: a, b, v => by rw [List.cons_append, lastT, lastT, lastT_app a b]
theorem Row.endy {l : List (Tk × Tk)} {i : Int} {e : Tk} (h : Row s i l e) (he : Stp e) : Endy (headT l e) := by
 cases l with
 | nil => exact he.e
 | cons x l => exact h.2.1.e
def txt2 (x : Tk × Tk) : ByteArray × ByteArray := (x.1.text, x.2.text)
def lvO (x : Tk × Tk) : Int := levelB x.1.text
structure BinA (s : ByteArray) (least ne ar : Int) (v : Tk) (l : List (Tk × Tk)) (e : Tk) (r : Res Nd) : Prop where
 ex : ∃ (n : Nd) (pre post : List (Tk × Tk)), l = pre ++ post ∧ r = .ok n (Zs (lastT v pre).till (headT post e) 1 1 ne ar) ∧ (∀ x ∈ pre, least ≤ lvO x) ∧ (∀ x t, post = x :: t → lvO x < least) ∧ Tree v.text (pre.map txt2) (bareNd n) ∧ (n.kind = 1 ∨ n.kind = 29) ∧ noProp n = true ∧ ndSize n = 2 * pre.length + 1
theorem bare_bin (t : ByteArray) (a b : Nd) (x y : Int) : bareNd (.mk 29 t [a, b] x y) = .mk 29 t [bareNd a, bareNd b] 0 0 := by
 rw [bareNd, if_neg (by decide), bareNds, bareNds, bareNds]
theorem bare_id (t : Tk) : bareNd (leafN 1 t) = .mk 1 t.text [] 0 0 := by
 unfold leafN
 rw [bareNd, if_neg (by decide), bareNds]
variable {m : Bool}
theorem operator_z {i ne ar : Int} {o : Tk} (h : Opr o) : operatorP s (Zs i o 1 1 ne ar) = .ok (o, levelB o.text) (Zs i o 1 1 ne ar) := by
 unfold operatorP
 rw [PM.go (peek_old (by decide)), PM.go (get_z _)]
 have h1 := h.op
 have h2 : hasF 1 1 = true := by decide
 show (if (decide (o.kind ≠ 5) && !nameT o ⟨#[105, 110, 115, 116, 97, 110, 99, 101, 111, 102]⟩ && (!nameT o ⟨#[105, 110]⟩ || !hasF 1 1)) = true then _ else _ : PM (Tk × Int)) _ = _
 rw [h2, Bool.not_true, Bool.or_false, if_neg (by rw [h1]; decide)]
 rfl
theorem operator_no {i ne ar : Int} {u : Tk} (h : Stp u) : ∃ r : Tk × Int, r.2 = 0 ∧ operatorP s (Zs i u 1 1 ne ar) = .ok r (Zs i u 1 1 ne ar) := by
 unfold operatorP
 rw [PM.go (peek_old (by decide)), PM.go (get_z _)]
 have h2 : hasF 1 1 = true := by decide
 show ∃ r : Tk × Int, r.2 = 0 ∧ (if (decide (u.kind ≠ 5) && !nameT u ⟨#[105, 110, 115, 116, 97, 110, 99, 101, 111, 102]⟩ && (!nameT u ⟨#[105, 110]⟩ || !hasF 1 1)) = true then _ else _ : PM (Tk × Int)) _ = _
 rw [h2, Bool.not_true, Bool.or_false]
 rcases h.op with h1 | h1
 ·rw [if_pos h1]
  exact ⟨_, rfl, rfl⟩
 ·split
  ·exact ⟨_, rfl, rfl⟩
  ·exact ⟨_, h1, rfl⟩
def Inv (pre post : List (Tk × Tk)) : Prop := ∀ x t, post = x :: t → pre = [] ∨ (lvO x < 12 ∧ ∀ y ∈ pre, lvO x ≤ lvO y)
set_option maxHeartbeats 1000000 in
theorem loop_row {e : Tk} (he : Stp e) {least ne ar : Int} (hl1 : 1 ≤ least) (hne0 : 0 ≤ ne) (F K : Nat)
  (IH : ∀ (l : List (Tk × Tk)) (least i g ne ar : Int) (v : Tk) (p : Ps), l.length < K → 1 ≤ least → Nm v → (g = 1 ∨ g = 2) → peekP s 2 p = .ok v (Zs i v g 1 ne ar) → Row s v.till l e → 0 ≤ ne → ne + l.length ≤ 3990 → BinA s least ne ar v l e (runQ s m F (.binary least false) p)) :
  ∀ (f : Nat) (post pre : List (Tk × Tk)) (v : Tk) (n : Nd), post.length ≤ K → post.length < f → ne + post.length ≤ 3990 → Row s (lastT v pre).till post e → Inv pre post → (∀ x ∈ pre, least ≤ lvO x) → Tree v.text (pre.map txt2) (bareNd n) → (n.kind = 1 ∨ n.kind = 29) → noProp n = true → ndSize n = 2 * pre.length + 1 →
   BinA s least ne ar v (pre ++ post) e (binaryS.opsL s (runQ s m F) least false f n (Zs (lastT v pre).till (headT post e) 1 1 ne ar))
 | 0, _, _, _, _, _, h, _, _, _, _, _, _, _, _ => absurd h (Nat.not_lt_zero _)
 | f + 1, [], pre, v, n, _, _, _, hr, _, hp, ht, hk, hn, hz => by
  obtain ⟨r, hr2, hx⟩ := operator_no (i := (lastT v pre).till) (ne := ne) (ar := ar) (s := s) he
  refine ⟨n, pre, [], by simp, ?_, hp, (fun _ _ h => by cases h), ht, hk, hn, hz⟩
  unfold binaryS.opsL
  show (operatorP s >>= _) (Zs _ e 1 1 ne ar) = _
  rw [PM.go hx, if_pos (.inr hr2)]
  rfl
 | f + 1, (o, w) :: post, pre, v, n, hK, hf, hb, hr, hinv, hp, ht, hk, hn, hz => by
  obtain ⟨h1, h2, h3, h4, h5⟩ := hr
  rw [List.length_cons] at hK hf hb
  by_cases hlv : levelB o.text < least
  ·refine ⟨n, pre, (o, w) :: post, rfl, ?_, hp, ?_, ht, hk, hn, hz⟩
   ·unfold binaryS.opsL
    show (operatorP s >>= _) (Zs _ o 1 1 ne ar) = _
    rw [PM.go (operator_z h2), if_pos (.inl hlv)]
    rfl
   ·intro x t hx
    injection hx with hx _
    rw [← hx]
    exact hlv
  ·replace h1 : Sees s 1 (lastT v pre).till o := h1
   replace h2 : Opr o := h2
   replace h3 : Sees s 2 o.till w := h3
   replace h4 : Nm w := h4
   have hlo := h2.lo
   have hhi := h2.hi
   have hq : o.text ≠ ⟨#[63, 63]⟩ := by
    intro hq
    have : levelB o.text = 1 := by rw [hq]; rfl
    omega
   have key : ∀ (lv : Int), lv = (if o.text = ⟨#[42, 42]⟩ then 12 else levelB o.text + 1) → ∀ (right : PM Nd), (∀ p, peekP s 2 p = .ok w (Zs o.till w 2 1 ne ar) → BinA s lv ne ar w post e (right p)) → ∀ W : Res Nd,
     ((do
      let _ ← takeP
      let rt ← right
      let k ← nodeP 29 o.text n.from' [n, rt]
      binaryS.opsL s (runQ s m F) least false f k) : PM Nd) (Zs (lastT v pre).till o 1 1 ne ar) = W → BinA s least ne ar v (pre ++ (o, w) :: post) e W := by
    intro lv hlve right hright W hW
    rw [PM.go take_z] at hW
    obtain ⟨n2, mid, post2, hl, hr2, hm1, hm2, htr, hk2, hn2, hz2⟩ := (hright (Zs o.till o 0 1 ne ar) (peek_new h3)).ex
    rw [PM.go hr2, PM.go (show nodeP 29 o.text n.from' [n, n2] (Zs (lastT w mid).till (headT post2 e) 1 1 ne ar) = .ok (.mk 29 o.text [n, n2] n.from' (lastT w mid).till) (Zs (lastT w mid).till (headT post2 e) 1 1 ne ar) from rfl)] at hW
    have hlast : lastT v (pre ++ (o, w) :: mid) = lastT w mid := by rw [lastT_app]; rfl
    have hl2 := congrArg List.length hl
    rw [List.length_append] at hl2
    have hrow : Row s (lastT v (pre ++ (o, w) :: mid)).till post2 e := by
     rw [hlast]
     rw [hl] at h5
     exact Row.drop h5
    have hmid : ∀ x ∈ mid, levelB o.text < lvO x ∨ (levelB o.text = lvO x ∧ x.1.text = ⟨#[42, 42]⟩) := by
     intro x hx
     have h6 := hm1 x hx
     by_cases ho : o.text = ⟨#[42, 42]⟩
     ·rw [if_pos ho] at hlve
      have h7 : levelB o.text = 12 := h2.star.2 ho
      have hmem : x ∈ post := by rw [hl]; exact List.mem_append_left _ hx
      have h8 : Opr x.1 := by
       have : ∀ (l : List (Tk × Tk)) (i : Int), Row s i l e → ∀ x ∈ l, Opr x.1 := by
        intro l
        induction l with
        | nil => intro i _ x hx; cases hx
        | cons y l ih =>
         intro i hr x hx
         rcases List.mem_cons.1 hx with rfl | hx
         ·exact hr.2.1
         ·exact ih _ hr.2.2.2.2 x hx
       exact this post _ h5 x hmem
      have h9 := h8.hi
      unfold lvO at h6 ⊢
      exact .inr ⟨by omega, h8.star.1 (by omega)⟩
     ·rw [if_neg ho] at hlve
      exact .inl (by omega)
    have hinv2 : Inv (pre ++ (o, w) :: mid) post2 := by
     intro x t hx
     have h6 := hm2 x t hx
     right
     by_cases ho : o.text = ⟨#[42, 42]⟩
     ·rw [if_pos ho] at hlve
      have h7 : levelB o.text = 12 := h2.star.2 ho
      refine ⟨by omega, fun y hy => ?_⟩
      rcases List.mem_append.1 hy with hy | hy
      ·rcases hinv (o, w) post rfl with h8 | ⟨h8, _⟩
       ·rw [h8] at hy; cases hy
       ·unfold lvO at h8; simp only at h8; omega
      ·rcases List.mem_cons.1 hy with rfl | hy
       ·unfold lvO; simp only; unfold lvO at h6; omega
       ·have := hm1 y hy; omega
     ·rw [if_neg ho] at hlve
      have h7 : levelB o.text ≠ 12 := fun h => ho (h2.star.1 h)
      refine ⟨by omega, fun y hy => ?_⟩
      rcases List.mem_append.1 hy with hy | hy
      ·rcases hinv (o, w) post rfl with h8 | ⟨_, h8⟩
       ·rw [h8] at hy; cases hy
       ·have := h8 y hy
        unfold lvO at this h6 ⊢
        simp only at this
        omega
      ·rcases List.mem_cons.1 hy with rfl | hy
       ·unfold lvO at h6 ⊢; simp only; omega
       ·have := hm1 y hy; omega
    have hcut : cutN ((pre.map txt2 ++ txt2 (o, w) :: mid.map txt2).map (·.1)) = (pre.map txt2).length := by
     rw [List.map_append, List.map_cons, List.map_map, List.map_map]
     refine (cut_at (o := o.text) (pre := pre.map (Prod.fst ∘ txt2)) (mid := mid.map (Prod.fst ∘ txt2)) ?_ ?_).trans (by simp)
     ·rcases hinv (o, w) post rfl with h8 | ⟨h8, h9⟩
      ·left; rw [h8]; rfl
      ·right
       refine ⟨fun h => ?_, fun x hx => ?_⟩
       ·have := h2.star.2 h
        unfold lvO at h8
        simp only at h8
        omega
       ·obtain ⟨y, hy, rfl⟩ := List.mem_map.1 hx
        exact h9 y hy
     ·intro x hx
      obtain ⟨y, hy, rfl⟩ := List.mem_map.1 hx
      exact hmid y hy
    have htree : Tree v.text ((pre ++ (o, w) :: mid).map txt2) (bareNd (.mk 29 o.text [n, n2] n.from' (lastT w mid).till)) := by
     rw [List.map_append, List.map_cons, bare_bin]
     exact Tree.cut v.text _ o.text w.text _ _ _ hcut ht htr
    have hfin := loop_row he (ar := ar) hl1 hne0 F K IH f post2 (pre ++ (o, w) :: mid) v (.mk 29 o.text [n, n2] n.from' (lastT w mid).till) (by omega) (by omega) (by omega) hrow hinv2 (fun x hx => by
     rcases List.mem_append.1 hx with hx | hx
     ·exact hp x hx
     ·rcases List.mem_cons.1 hx with rfl | hx
      ·unfold lvO; simp only; omega
      ·have h6 := hm1 x hx
       have h7 : levelB o.text ≤ lv := by
        rw [hlve]
        split
        ·rename_i ho; have := h2.star.2 ho; omega
        ·omega
       omega) htree (.inr rfl) (by rw [noProp, noProps, noProps, noProps, hn, hn2]; rfl) (by rw [ndSize, ndSizes, ndSizes, ndSizes, hz, hz2, List.length_append, List.length_cons]; omega)
    rw [hlast, hW] at hfin
    have e9 : pre ++ (o, w) :: post = (pre ++ (o, w) :: mid) ++ post2 := by rw [hl]; simp
    rw [e9]
    exact hfin
   have hbad : ((decide (o.text = ⟨#[63, 63]⟩) && logicalN n) || ((decide (o.text = ⟨#[124, 124]⟩) || decide (o.text = ⟨#[38, 38]⟩)) && false) || (decide (o.text = ⟨#[42, 42]⟩) && (decide (n.kind = 27) || decide (n.kind = 34)))) = false := by
    rw [decide_eq_false hq]
    rcases hk with hk | hk <;> simp [hk]
   unfold binaryS.opsL
   show BinA _ _ _ _ _ _ _ ((operatorP s >>= _) (Zs _ o 1 1 ne ar))
   rw [PM.go (operator_z h2), if_neg (by simp only; omega), if_neg (by simp only; rw [hbad]; decide)]
   simp only
   by_cases ho : o.text = ⟨#[42, 42]⟩
   ·refine key 12 (by rw [if_pos ho]) (do
     let u ← peekP s 2
     deeperP u.from' (runQ s m F (.binary (levelB o.text) false))) (fun p hpk => ?_) _ (by simp only [if_pos ho])
    have h7 : levelB o.text = 12 := h2.star.2 ho
    rw [PM.go hpk, h7]
    have hb2 := IH post 12 o.till 2 (ne + 1) ar w (Zs o.till w 2 1 (ne + 1) ar) (by omega) (by decide) h4 (.inr rfl) (peek_self (.inr rfl) h4.sl (by decide)) h5 (by omega) (by omega)
    obtain ⟨n2, mid, post2, hl, hr2, hm1, hm2, htr, hk2, hn2, hz2⟩ := hb2.ex
    refine ⟨n2, mid, post2, hl, ?_, hm1, hm2, htr, hk2, hn2, hz2⟩
    unfold deeperP
    show (if 4000 ≤ ne then _ else _) = _
    rw [if_neg (by omega)]
    show PM.bind (runQ s m F (.binary 12 false)) _ (Zs o.till w 2 1 (ne + 1) ar) = _
    unfold PM.bind
    rw [hr2]
    show (if ne + 1 ≤ 0 then _ else _) = _
    rw [if_neg (by omega)]
    show Res.ok n2 (Zs _ _ 1 1 (ne + 1 - 1) ar) = _
    rw [Int.add_sub_cancel]
    rfl
   ·refine key (levelB o.text + 1) (by rw [if_neg ho]) (runQ s m F (.binary (levelB o.text + 1) (decide (o.text = ⟨#[63, 63]⟩)))) (fun p hpk => ?_) _ (by rw [if_neg ho])
    rw [decide_eq_false hq]
    exact IH post _ o.till 2 ne ar w p (by omega) (by omega) h4 (.inr rfl) hpk h5 hne0 (by omega)
theorem bin_row {e : Tk} (he : Stp e) : ∀ (K F : Nat) (l : List (Tk × Tk)) (least i g ne ar : Int) (v : Tk) (p : Ps), l.length < K → K + 7 ≤ F → 1 ≤ least → Nm v → (g = 1 ∨ g = 2) → peekP s 2 p = .ok v (Zs i v g 1 ne ar) → Row s v.till l e → 0 ≤ ne → ne + l.length ≤ 3990 → BinA s least ne ar v l e (runQ s m F (.binary least false) p)
 | 0, _, _, _, _, _, _, _, _, _, h, _, _, _, _, _, _, _, _ => absurd h (Nat.not_lt_zero _)
 | K + 1, 0, _, _, _, _, _, _, _, _, _, h, _, _, _, _, _, _, _ => by omega
 | K + 1, F + 1, l, least, i, g, ne, ar, v, p, hK, hF, hl1, hv, hg, hp, hr, hne0, hne1 => by
  have hop := operand_z (F - 6) (m := m) least hv hg hp (hr.endy he) hr.head
  rw [show F - 6 + 6 = F by omega] at hop
  have hlp := loop_row he hl1 hne0 F K (ar := ar) (fun l least i g ne ar v p h1 h2 h3 h4 h5 h6 h7 h8 => bin_row he K F l least i g ne ar v p h1 (by omega) h2 h3 h4 h5 h6 h7 h8) F l [] v (leafN 1 v) (by omega) (by omega) hne1 hr (fun _ _ _ => .inl rfl) (fun _ h => by cases h) (by rw [bare_id]; exact Tree.nil _) (.inl rfl) rfl rfl
  show BinA s least ne ar v l e (binaryS s F (runQ s m F) least false p)
  unfold binaryS
  rw [PM.go hop, if_neg (leaf_k v)]
  exact hlp
end
end
section
open Go.RowKit
section
variable {s : ByteArray} {p : Nat}
theorem tx_lt {c : UInt8} {l : List UInt8} (hd : s.data.toList.drop p = c :: l) : p < s.size := by
 have h := congrArg List.length hd
 rw [List.length_drop, List.length_cons] at h
 show p < s.data.size
 rw [← Array.length_toList]
 omega
theorem tx_next {c : UInt8} {l : List UInt8} (hd : s.data.toList.drop p = c :: l) : s.data.toList.drop (p + 1) = l := by
 rw [← List.drop_drop, hd]
 rfl
theorem tx_app {a l : List UInt8} (hd : s.data.toList.drop p = a ++ l) : s.data.toList.drop (p + a.length) = l := by
 rw [← List.drop_drop, hd, List.drop_left]
theorem tx_fits {a l : List UInt8} (hd : s.data.toList.drop p = a ++ l) (hp : p ≤ s.size) : p + a.length ≤ s.size := by
 have h := congrArg List.length hd
 rw [List.length_drop, List.length_append] at h
 have h2 : s.data.toList.length = s.size := Array.length_toList
 omega
theorem tx_piece {a l : List UInt8} (hd : s.data.toList.drop p = a ++ l) : s.extract p (p + a.length) = ⟨a.toArray⟩ := by
 apply ba_ext
 rw [ByteArray.data_extract, Array.toList_extract, List.extract_eq_take_drop, hd, Nat.add_sub_cancel_left, List.take_left]
theorem btw_32 {l : List UInt8} {line : Bool} (hd : s.data.toList.drop p = 32 :: l) : btw s p line = btw s (p + 1) line := by
 have hlt := tx_lt hd
 have h1 : isGap (32 :: l) = true := by
  unfold isGap
  rw [nx_ascii _ _ (by decide)]
  rfl
 rw [btw_step s p line (by omega), hd, if_pos h1, nx_ascii _ _ (by decide)]
 show btw s (p + 1) (line || endsR 32) = _
 rw [show endsR 32 = false from rfl, Bool.or_false]
def Ink (l : List UInt8) : Prop := isGap l = false ∧ ∀ p, 0 < p → cmKind p l = 0
theorem btw_ink {l : List UInt8} {line : Bool} (hd : s.data.toList.drop p = l) (hp : p ≤ s.size) (h : isGap l = false ∧ cmKind p l = 0) : btw s p line = .fine p line [] := by
 rw [btw_step s p line hp, hd, if_neg (by rw [h.1]; decide), if_pos h.2]
theorem nxt_12 {g : Int} (hg : g = 1 ∨ g = 2) {q : Nat} {line : Bool} {kind : Int} {n : Nat} (hb : btw s p false = .fine q line []) (ht : plainT g (s.data.toList.drop q) = .fine kind n) : nxt s p g = .fine kind q n line [] := by
 unfold nxt tokT
 rcases hg with rfl | rfl <;>
 ·rw [if_neg (by rintro (h | h | ⟨h, _⟩) <;> omega), if_neg (by decide), hb]
  simp only
  rw [if_neg (by decide), if_neg (by decide), if_neg (by decide), ht]
theorem sees_32 {g : Int} (hg : g = 1 ∨ g = 2) {a l : List UInt8} {kind : Int} (hd : s.data.toList.drop p = 32 :: (a ++ l)) (hi : Ink (a ++ l)) (ht : plainT g (a ++ l) = .fine kind a.length) :
  Sees s g p ⟨kind, ⟨a.toArray⟩, ((p + 1 : Nat) : Int), ((p + 1 + a.length : Nat) : Int), false⟩ := by
 have hlt := tx_lt hd
 have hd1 := tx_next hd
 refine ⟨by omega, by omega, p + 1, a.length, ?_, ?_⟩
 ·rw [Int.toNat_natCast]
  refine nxt_12 hg ((btw_32 hd).trans (btw_ink hd1 (by omega) ⟨hi.1, hi.2 _ (by omega)⟩)) ?_
  rw [hd1]
  exact ht
 ·unfold tkOf
  rw [tx_piece hd1]
theorem sees_0 {g : Int} (hg : g = 1 ∨ g = 2) {a l : List UInt8} {kind : Int} (hd : s.data.toList = a ++ l) (hi : isGap (a ++ l) = false ∧ cmKind 0 (a ++ l) = 0) (ht : plainT g (a ++ l) = .fine kind a.length) :
  Sees s g 0 ⟨kind, ⟨a.toArray⟩, 0, (a.length : Int), false⟩ := by
 have hd1 : s.data.toList.drop 0 = a ++ l := hd
 refine ⟨by omega, by omega, 0, a.length, ?_, ?_⟩
 ·refine nxt_12 hg (btw_ink hd1 (by omega) hi) ?_
  rw [List.drop_zero, hd]
  exact ht
 ·unfold tkOf
  have := tx_piece hd1
  rw [this]
  simp
def endT (p : Nat) : Tk := ⟨0, ⟨#[]⟩, p, p, false⟩
theorem sees_end {g : Int} (hg : g = 1 ∨ g = 2) (hd : s.data.toList.drop p = []) (hp : p ≤ s.size) : Sees s g p (endT p) := by
 refine ⟨by omega, by omega, p, 0, ?_, ?_⟩
 ·rw [Int.toNat_natCast]
  refine nxt_12 hg (btw_ink hd hp ⟨rfl, ?_⟩) ?_
  ·unfold cmKind
   rw [if_neg (by decide), if_neg (by decide), if_neg (by simp [Lib.hasPrefix])]
  ·rw [hd]
   rfl
 ·unfold tkOf endT
  have : s.extract p (p + 0) = ⟨#[]⟩ := tx_piece (a := []) (l := []) hd
  rw [this]
  simp
end
def wordC (c : UInt8) : Bool := decide (c.toNat < 128) && partC (c.toNat : Int)
theorem parts_word {l : List UInt8} (hl : goesP false l = false) : ∀ (a : List UInt8), (∀ c ∈ a, wordC c = true) → partsL false (a ++ l) = a.length
 | [], _ => partsL_no hl
 | c :: a, h => by
  have hc := h c (.head _)
  unfold wordC at hc
  rw [Bool.and_eq_true, decide_eq_true_eq] at hc
  have hg : goesP false (c :: (a ++ l)) = true := by
   unfold goesP
   rw [nx_ascii _ _ hc.1, hc.2]
   rfl
  rw [List.cons_append, partsL_yes hg, nx_ascii _ _ hc.1]
  show 1 + partsL false (a ++ l) = _
  rw [parts_word hl a (fun c hc => h c (.tail _ hc)), List.length_cons]
  omega
theorem name_word {c : UInt8} {a l : List UInt8} (hc : c.toNat < 128) (hs : startC (c.toNat : Int) = true) (ha : ∀ c ∈ a, wordC c = true) (hl : goesP false l = false) : nameL false (c :: (a ++ l)) = a.length + 1 := by
 have hw : ∀ x ∈ c :: a, wordC x = true := by
  intro x hx
  rcases List.mem_cons.1 hx with rfl | hx
  ·unfold wordC partC
   rw [decide_eq_true hc, hs]
   rfl
  ·exact ha x hx
 unfold nameL
 rw [nx_ascii _ _ hc, if_pos ⟨show (0 : Int) < 1 by decide, hs⟩, ← List.cons_append, parts_word hl _ hw, List.length_cons]
theorem pre_no {c d : UInt8} {l w : List UInt8} (h : c ≠ d) : Lib.hasPrefix (c :: l) (d :: w) = false := by
 unfold Lib.hasPrefix
 rw [List.isPrefixOf_cons_cons, beq_eq_false_iff_ne.2 (Ne.symm h), Bool.false_and]
theorem plain_word {g : Int} {c : UInt8} {a l : List UInt8} (hlo : low c) (hs : startC (c.toNat : Int) = true) (ha : ∀ c ∈ a, wordC c = true) (hl : goesP false l = false) (hl2 : 0 ≤ (nx l).2) :
  plainT g (c :: a ++ l) = .fine 1 (c :: a).length := by
 obtain ⟨h1, h2⟩ := hlo
 have hn : ∀ d : UInt8, d.toNat < 97 → c ≠ d := by rintro d hd rfl; omega
 have hdig : digAt (c :: (a ++ l)) = false := by
  unfold digAt
  rw [decide_eq_false_iff_not]
  omega
 have hw := name_word (l := l) (by omega) hs ha hl
 rw [List.cons_append]
 unfold plainT
 rw [if_neg (by simp), if_neg (by rw [pre_no (hn _ (by decide))]; decide), if_neg (by rw [pre_no (hn _ (by decide))]; decide), if_neg (by rw [hdig, pre_no (hn 46 (by decide))]; simp), if_neg (by rw [pre_no (hn _ (by decide)), pre_no (hn _ (by decide))]; simp), if_neg (by rw [pre_no (hn _ (by decide))]; simp), hw, if_pos (by omega)]
 unfold aft
 rw [show (c :: (a ++ l)).drop (a.length + 1) = l by rw [List.drop_succ_cons, List.drop_left], if_neg (by omega), List.length_cons]
theorem tx_get {f : Nat → Bool} {m : Nat} (h : (List.range m).all f = true) (n : Nat) (hn : n < m) : f n = true := List.all_eq_true.1 h n (List.mem_range.2 hn)
theorem gap_row : (List.range 127).all (fun n => decide (n < 33) || !(endsR (n : Int) || blankR (n : Int))) = true := by kernel_rfl
theorem low_row : (List.range 127).all (fun n => decide (n < 97 ∨ 122 < n) || startC (n : Int)) = true := by kernel_rfl
theorem dig_row : (List.range 127).all (fun n => decide (n < 48 ∨ 57 < n) || partC (n : Int)) = true := by kernel_rfl
theorem ink_of {c : UInt8} {l : List UInt8} (h1 : 33 ≤ c.toNat) (h2 : c.toNat < 127) (h3 : c ≠ 47) (h4 : c ≠ 35) : Ink (c :: l) := by
 refine ⟨?_, fun p hp => ?_⟩
 ·unfold isGap
  rw [nx_ascii _ _ (by omega)]
  show (decide ((0 : Int) < 1) && (endsR (c.toNat : Int) || blankR (c.toNat : Int))) = false
  have h := (Bool.or_eq_true _ _).mp (tx_get gap_row c.toNat h2)
  rw [Bool.not_eq_true', decide_eq_true_eq] at h
  rw [h.resolve_left (by omega), Bool.and_false]
 ·unfold cmKind
  rw [if_neg (by rw [pre_no h3]; decide), if_neg (by rw [pre_no h3]; decide), if_neg (by rw [pre_no h4]; simp)]
theorem low_start {c : UInt8} (h : low c) : startC (c.toNat : Int) = true := by
 obtain ⟨h1, h2⟩ := h
 have h := tx_get low_row c.toNat (by omega)
 simp only [Bool.or_eq_true, decide_eq_true_eq] at h
 exact h.resolve_left (by omega)
theorem dig_word {c : UInt8} (h : 48 ≤ c.toNat ∧ c.toNat ≤ 57) : wordC c = true := by
 have h3 := tx_get dig_row c.toNat (by omega)
 simp only [Bool.or_eq_true, decide_eq_true_eq] at h3
 unfold wordC
 rw [h3.resolve_left (by omega), decide_eq_true (show c.toNat < 128 by omega)]
 rfl
theorem low_word {c : UInt8} (h : low c) : wordC c = true := by
 unfold wordC partC
 rw [low_start h, Bool.true_or, decide_eq_true (show c.toNat < 128 by have := h.2; omega)]
 rfl
theorem part_32 : partC (((32 : UInt8).toNat : Nat) : Int) = false := by kernel_rfl
theorem goes_32 (l : List UInt8) : goesP false (32 :: l) = false := by
 unfold goesP
 rw [nx_ascii _ _ (by decide)]
 simp only [part_32, Bool.false_and, Bool.or_false, Bool.and_false]
theorem nx_32 (l : List UInt8) : 0 ≤ (nx (32 :: l)).2 := by
 rw [nx_ascii _ _ (by decide)]
 decide
end
section
open Go.RowKit
def opsRow : List (List UInt8) := [[124, 124], [38, 38], [124], [94], [38], [61, 61], [33, 61], [61, 61, 61], [33, 61, 61], [60], [62], [60, 61], [62, 61], [105, 110], [105, 110, 115, 116, 97, 110, 99, 101, 111, 102], [60, 60], [62, 62], [62, 62, 62], [43], [45], [42], [47], [37], [42, 42]]
def opK (o : List UInt8) : Int := if o = [105, 110] ∨ o = [105, 110, 115, 116, 97, 110, 99, 101, 111, 102] then 1 else 5
theorem ops_word (o : List UInt8) (h : o = [105, 110] ∨ o = [105, 110, 115, 116, 97, 110, 99, 101, 111, 102]) : ∃ c a, o = c :: a ∧ low c ∧ ∀ x ∈ a, wordC x = true := by
 rcases h with rfl | rfl
 ·exact ⟨_, _, rfl, by decide, fun x hx => low_word (by revert x; decide)⟩
 ·exact ⟨_, _, rfl, by decide, fun x hx => low_word (by revert x; decide)⟩
def markC (c : UInt8) : Bool := decide (c.toNat < 128) && !startC (c.toNat : Int) && decide (c ≠ 96 ∧ c ≠ 35 ∧ c ≠ 46 ∧ c ≠ 39 ∧ c ≠ 34 ∧ ¬ (48 ≤ c.toNat ∧ c.toNat ≤ 57))
theorem plain_mark {c : UInt8} {l : List UInt8} {n : Nat} (hc : markC c = true) (hp : pct 1 (c :: l) = n) (hn : n ≠ 0) : plainT 1 (c :: l) = .fine 5 n := by
 unfold markC at hc
 rw [Bool.and_eq_true, Bool.and_eq_true, decide_eq_true_eq, decide_eq_true_eq, Bool.not_eq_true'] at hc
 obtain ⟨⟨h1, h2⟩, h3, h4, h5, h6, h7, h8⟩ := hc
 have hdig : digAt (c :: l) = false := by
  unfold digAt
  rw [decide_eq_false_iff_not]
  exact h8
 have hname : nameL false (c :: l) = 0 := by
  unfold nameL
  rw [nx_ascii _ _ h1, if_neg]
  rintro ⟨_, h⟩
  simp only at h
  rw [h2] at h
  cases h
 unfold plainT
 rw [if_neg (by simp), if_neg (by rw [pre_no h3]; decide), if_neg (by rw [pre_no h4]; decide), if_neg (by rw [hdig, pre_no h5]; simp), if_neg (by rw [pre_no h6, pre_no h7]; simp), if_neg (by rintro ⟨h, _⟩; omega), if_neg (by rw [hname]; simp), hp, if_pos hn]
theorem op_plain : ∀ o ∈ opsRow, ∀ l, plainT 1 (o ++ 32 :: l) = .fine (opK o) o.length := by
 intro o ho l
 by_cases h : o = [105, 110] ∨ o = [105, 110, 115, 116, 97, 110, 99, 101, 111, 102]
 ·unfold opK
  rw [if_pos h]
  obtain ⟨c, a, rfl, hc, ha⟩ := ops_word o h
  exact plain_word hc (low_start hc) ha (goes_32 l) (nx_32 l)
 ·have hk : opK o = 5 := by unfold opK; rw [if_neg h]
  rw [hk]
  clear hk
  simp only [opsRow, List.mem_cons, List.not_mem_nil, or_false] at ho
  rcases ho with rfl | rfl | rfl | rfl | rfl | rfl | rfl | rfl | rfl | rfl | rfl | rfl | rfl | rfl | rfl | rfl | rfl | rfl | rfl | rfl | rfl | rfl | rfl | rfl <;>
   first
   | exact absurd (.inl rfl) h
   | exact absurd (.inr rfl) h
   | exact plain_mark (by decide) rfl (by decide)
theorem op_ink : ∀ o ∈ opsRow, ∀ l, Ink (o ++ 32 :: l) := by
 intro o ho l
 by_cases h : o = [47]
 ·subst h
  refine ⟨rfl, fun p hp => ?_⟩
  unfold cmKind
  rw [if_neg (by simp [Lib.hasPrefix]), if_neg (by simp [Lib.hasPrefix]), if_neg (by simp [Lib.hasPrefix])]
 ·have key : (opsRow.all fun o => decide (o = [47]) || match o with | c :: _ => decide (33 ≤ c.toNat ∧ c.toNat < 127 ∧ c ≠ 47 ∧ c ≠ 35) | [] => false) = true := by decide
  have := List.all_eq_true.1 key o ho
  rw [Bool.or_eq_true, decide_eq_true_eq] at this
  have := this.resolve_left h
  cases o with
  | nil => cases this
  | cons c o =>
   obtain ⟨h1, h2, h3, h4⟩ := of_decide_eq_true this
   exact ink_of h1 h2 h3 h4
theorem op_opr0 : ∀ o ∈ opsRow, Opr ⟨opK o, ⟨o.toArray⟩, 0, 0, false⟩ := by
 intro o ho
 simp only [opsRow, List.mem_cons, List.not_mem_nil, or_false] at ho
 rcases ho with rfl | rfl | rfl | rfl | rfl | rfl | rfl | rfl | rfl | rfl | rfl | rfl | rfl | rfl | rfl | rfl | rfl | rfl | rfl | rfl | rfl | rfl | rfl | rfl <;>
  exact ⟨by decide, by decide, by decide, by decide, ⟨by decide, by decide, by decide, by decide, by decide, by decide, by decide, by decide⟩⟩
theorem op_opr (o : List UInt8) (ho : o ∈ opsRow) (a b : Int) : Opr ⟨opK o, ⟨o.toArray⟩, a, b, false⟩ :=
 have h := op_opr0 o ho
 ⟨h.op, h.lo, h.hi, h.star, ⟨h.e.dot, h.e.brk, h.e.par, h.e.opt, h.e.k7, h.e.k8, h.e.inc, h.e.dec⟩⟩
def Dg (d : List UInt8) : Prop := d ≠ [] ∧ ∀ c ∈ d, 48 ≤ c.toNat ∧ c.toNat ≤ 57
def dg2 (x : UInt8) : Bool := decide (48 ≤ x.toNat ∧ x.toNat ≤ 57)
theorem v_nm {d : List UInt8} (hd : Dg d) (a b : Int) (line : Bool) : Nm ⟨1, ⟨(118 :: d).toArray⟩, a, b, line⟩ := by
 obtain ⟨h0, h⟩ := hd
 cases d with
 | nil => exact absurd rfl h0
 | cons c d =>
  have hc := h c (.head _)
  have key : (resW.all fun x => match x.data.toList with | _ :: y :: _ => !dg2 y | _ => true) = true := by decide
  have kw : ∀ x : ByteArray, (match x.data.toList with | _ :: y :: _ => !dg2 y | _ => true) = true → (⟨(118 :: c :: d).toArray⟩ : ByteArray) ≠ x := by
   rintro x hx rfl
   simp only [dg2, decide_eq_true hc] at hx
   cases hx
  refine ⟨rfl, ?_, kw _ (by decide), kw _ (by decide), rfl⟩
  unfold oneOf
  rw [List.any_eq_false]
  intro x hx
  have := List.all_eq_true.1 key x hx
  have := kw x this
  simp only [decide_eq_true_eq]
  exact this
def txtR : List (List UInt8 × List UInt8) → List UInt8
 | [] => []
 | x :: l => 32 :: (x.1 ++ 32 :: ((118 :: x.2) ++ txtR l))
theorem txtR_goes (l : List (List UInt8 × List UInt8)) : goesP false (txtR l) = false := by
 cases l with
 | nil => rfl
 | cons x l => exact goes_32 _
theorem txtR_nx (l : List (List UInt8 × List UInt8)) : 0 ≤ (nx (txtR l)).2 := by
 cases l with
 | nil => decide
 | cons x l => exact nx_32 _
theorem end_stp (p : Nat) : Stp (endT p) := ⟨.inr rfl, ⟨rfl, rfl, rfl, rfl, (show ¬ (0 : Int) = 7 by decide), (show ¬ (0 : Int) = 8 by decide), rfl, rfl⟩⟩
theorem v_plain {g : Int} {d : List UInt8} (hd : Dg d) (l : List (List UInt8 × List UInt8)) : plainT g ((118 :: d) ++ txtR l) = .fine 1 (118 :: d).length :=
 plain_word (by decide) (low_start (by decide)) (fun c hc => dig_word (hd.2 c hc)) (txtR_goes l) (txtR_nx l)
theorem row_sees {s : ByteArray} : ∀ (rs : List (List UInt8 × List UInt8)) (p : Nat), (∀ x ∈ rs, x.1 ∈ opsRow ∧ Dg x.2) → s.data.toList.drop p = txtR rs → p ≤ s.size →
  ∃ ts : List (Tk × Tk), Row s p ts (endT s.size) ∧ ts.map txt2 = rs.map row2
 | [], p, _, hd, hp => by
  have h := congrArg List.length hd
  rw [List.length_drop, txtR, List.length_nil] at h
  have h2 : s.data.toList.length = s.size := Array.length_toList
  have e : p = s.size := by omega
  subst e
  exact ⟨[], sees_end (.inl rfl) hd hp, rfl⟩
 | x :: rs, p, h, hd, hp => by
  obtain ⟨ho, hx⟩ := h x (.head _)
  rw [txtR] at hd
  have s1 := sees_32 (.inl rfl) hd (op_ink x.1 ho _) (op_plain x.1 ho _)
  have hd1 := tx_app (tx_next hd)
  have s2 := sees_32 (.inr rfl) hd1 (ink_of (by decide) (by decide) (by decide) (by decide)) (v_plain hx rs)
  have hd2 := tx_app (tx_next hd1)
  have hlt := tx_lt hd1
  have hfit := tx_fits (tx_next hd1) hlt
  obtain ⟨ts, h1, h2⟩ := row_sees rs _ (fun y hy => h y (.tail _ hy)) hd2 hfit
  exact ⟨(_, _) :: ts, ⟨s1, op_opr x.1 ho _ _, s2, v_nm hx _ _ _, h1⟩, by rw [List.map_cons, List.map_cons, h2]; rfl⟩
end
section
open Go.RowKit
section
variable {s : ByteArray} {m : Bool} {i g fl ne ar : Int} {u v : Tk} {n : Nd} {p : Ps} {f : Nat}
theorem cond_z (hb : runQ s m f (.binary 1 false) p = .ok n (Zs i u 1 fl ne ar)) (hk : n.kind ≠ 22) (hq : punctT u ⟨#[63]⟩ = false) : runQ s m (f + 1) .cond p = .ok n (Zs i u 1 fl ne ar) := by
 show condS s (runQ s m f) p = _
 unfold condS
 rw [PM.go hb, if_neg hk, PM.go (is_no (peek_old (by decide)) hq), if_neg (by decide)]
 rfl
theorem assigned_z (hk : n.kind ≠ 22) (ha : assigningT u = false) : runQ s m (f + 1) (.assigned n) (Zs i u 1 fl ne ar) = .ok n (Zs i u 1 fl ne ar) := by
 show assignedS s (runQ s m f) n _ = _
 unfold assignedS
 rw [if_neg hk, PM.go (peek_old (by decide)), if_neg (by rw [ha]; decide)]
 rfl
theorem deeper_z {α : Type} {x : PM α} {i' : Int} {u' : Tk} {g' fl' ar' place : Int} {a : α} (h0 : 0 ≤ ne) (h1 : ne < 4000) (hx : x (Zs i u g fl (ne + 1) ar) = .ok a (Zs i' u' g' fl' (ne + 1) ar')) : deeperP place x (Zs i u g fl ne ar) = .ok a (Zs i' u' g' fl' ne ar') := by
 unfold deeperP
 show (if 4000 ≤ ne then _ else _) = _
 rw [if_neg (by omega)]
 show PM.bind x _ (Zs i u g fl (ne + 1) ar) = _
 unfold PM.bind
 rw [hx]
 show (if ne + 1 ≤ 0 then _ else _) = _
 rw [if_neg (by omega)]
 show Res.ok a (Zs _ _ _ _ (ne + 1 - 1) _) = _
 rw [Int.add_sub_cancel]
 rfl
theorem single_z (h : Nm v) (hu : Sees s 1 v.till u) (har : punctT u ⟨#[61, 62]⟩ = false) : assignS.single s m v (Zs i v g fl ne ar) = .ok false (Zs i v g fl ne ar) := by
 unfold assignS.single
 rw [PM.go (get_z _), if_neg (by rw [nameT_ne h.asy]; decide)]
 show ((pure v : PM Tk) >>= _) _ = _
 rw [PM.go (show (pure v : PM Tk) (Zs i v g fl ne ar) = .ok v (Zs i v g fl ne ar) from rfl), PM.go (look_z hu _), if_pos (by rw [har]; simp)]
 rfl
theorem assign_z {i' g' fl' ar' i2 g2 fl2 ar2 : Int} {u' u2 : Tk} {n2 : Nd} (h : Nm v) (hp : peekP s 2 p = .ok v (Zs i v g fl ne ar)) (hu : Sees s 1 v.till u) (har : punctT u ⟨#[61, 62]⟩ = false) (h0 : 0 ≤ ne) (h1 : ne < 4000)
  (hc : runQ s m f .cond (Zs i v g fl (ne + 1) v.from') = .ok n (Zs i' u' g' fl' (ne + 1) ar')) (ha : runQ s m f (.assigned n) (Zs i' u' g' fl' (ne + 1) ar') = .ok n2 (Zs i2 u2 g2 fl2 (ne + 1) ar2)) :
  runQ s m (f + 1) .assign p = .ok n2 (Zs i2 u2 g2 fl2 ne ar2) := by
 show assignS s m (runQ s m f) p = _
 unfold assignS
 rw [PM.go hp]
 refine deeper_z h0 h1 ?_
 rw [PM.go (get_z _), if_neg (by rw [h.nameT (by decide)]; simp), PM.go (single_z h hu har), if_neg (by decide)]
 rw [PM.go (show modP (fun q => { q with arrow := v.from' }) (Zs i v g fl (ne + 1) ar) = .ok () (Zs i v g fl (ne + 1) v.from') from rfl), PM.go hc]
 exact ha
theorem expression_z (ha : runQ s m f .assign p = .ok n (Zs i u 1 fl ne ar)) (hc : punctT u ⟨#[44]⟩ = false) : runQ s m (f + 1) .expression p = .ok n (Zs i u 1 fl ne ar) := by
 show expressionS s f (runQ s m f) p = _
 unfold expressionS
 rw [PM.go ha, PM.go (peek_old (by decide)), if_neg (by rw [hc]; decide)]
 rfl
theorem expr_z (he : runQ s m f .expression (ps0 m) = .ok n (Zs i u 1 fl ne ar)) (hu : u.kind = 0) (hn : noProp n = true) (hz : ndSize n ≤ 8000) : exprQ s m f = .ok n (Zs i u 1 fl ne ar) := by
 have hd := deep_le n
 unfold exprQ readQ expr1S
 rw [PM.go (show _ = Res.ok n (Zs i u 1 fl ne ar) by rw [PM.go he, PM.go (peek_old (by decide)), if_pos hu]; rfl), if_neg (by rw [hn]; decide), if_neg (by omega), if_neg (by omega)]
 rfl
end
theorem Row.opr {s : ByteArray} {e : Tk} : ∀ {l : List (Tk × Tk)} {i : Int}, Row s i l e → ∀ x ∈ l, Opr x.1
 | [], _, _, x, h => by cases h
 | y :: l, _, hr, x, h => by
  rcases List.mem_cons.1 h with rfl | h
  ·exact hr.2.1
  ·exact Row.opr hr.2.2.2.2 x h
theorem expr_ops {s : ByteArray} (F : Nat) (hF : 48 ≤ F) (d : List UInt8) (rs : List (List UInt8 × List UInt8)) (hd : Dg d) (hr : ∀ x ∈ rs, x.1 ∈ opsRow ∧ Dg x.2) (hl : rs.length ≤ 40) (ht : s.data.toList = (118 :: d) ++ txtR rs) :
  ∃ n q, exprQ s false (F + 3) = .ok n q ∧ Tree ⟨(118 :: d).toArray⟩ (rs.map row2) (bareNd n) ∧ ndSize n ≤ 81 := by
 have h0 : Sees s 2 0 ⟨1, ⟨(118 :: d).toArray⟩, 0, ((118 :: d).length : Int), false⟩ :=
  sees_0 (.inr rfl) ht ⟨(ink_of (by decide) (by decide) (by decide) (by decide)).1, (show cmKind 0 (118 :: (d ++ txtR rs)) = 0 by unfold cmKind; rw [if_neg (by rw [pre_no (by decide)]; decide), if_neg (by rw [pre_no (by decide)]; decide), if_neg (by rw [pre_no (by decide)]; simp)])⟩ (v_plain hd rs)
 have hd0 : s.data.toList.drop 0 = (118 :: d) ++ txtR rs := ht
 obtain ⟨ts, h1, h2⟩ := row_sees rs _ hr (tx_app hd0) (tx_fits hd0 (Nat.zero_le _))
 rw [Nat.zero_add] at h1
 have hlen : ts.length = rs.length := by have := congrArg List.length h2; rwa [List.length_map, List.length_map] at this
 have hv := v_nm hd 0 ((118 :: d).length : Int) false
 have hb := (bin_row (m := false) (end_stp s.size) 41 F ts 1 0 2 1 0 _ (Zs 0 _ 2 1 1 0) (by omega) (by omega) (by decide) hv (.inr rfl) (peek_old (by decide)) h1 (by decide) (by omega)).ex
 obtain ⟨n, pre, post, he, hx, _, hpost, htr, hk, hn, hz⟩ := hb
 have hp0 : post = [] := by
  cases post with
  | nil => rfl
  | cons x t =>
   have h3 := hpost x t rfl
   have h4 := (Row.opr h1 x (by rw [he]; exact List.mem_append_right _ (.head _))).lo
   unfold lvO at h3
   omega
 subst hp0
 rw [List.append_nil] at he
 subst he
 have hnk : n.kind ≠ 22 := by rcases hk with hk | hk <;> omega
 have hu : Sees s 1 ((118 :: d).length : Int) (headT ts (endT s.size)) := h1.head
 have har : punctT (headT ts (endT s.size)) ⟨#[61, 62]⟩ = false := by
  cases ts with
  | nil => rfl
  | cons x t =>
   show punctT x.1 _ = false
   unfold punctT
   have h4 := (Row.opr h1 x (.head _)).lo
   rw [Bool.and_eq_false_iff]
   right
   rw [decide_eq_false_iff_not]
   intro h5
   rw [h5] at h4
   revert h4
   decide
 have hc := cond_z hx hnk (show punctT (endT s.size) ⟨#[63]⟩ = false from rfl)
 have ha := assigned_z (s := s) (m := false) (f := F) (i := (lastT ⟨1, ⟨(118 :: d).toArray⟩, 0, ((118 :: d).length : Int), false⟩ ts).till) (fl := 1) (ne := 1) (ar := 0) (u := endT s.size) hnk rfl
 have hp1 : peekP s 2 (Zs 0 Tk.zero 0 1 0 (-1)) = _ := peek_new h0
 generalize hv0 : (⟨1, ⟨(118 :: d).toArray⟩, 0, ((118 :: d).length : Int), false⟩ : Tk) = v at hc ha hv hu hp1
 have hvf : v.from' = 0 := by rw [← hv0]
 have hvt : v.till = ((118 :: d).length : Int) := by rw [← hv0]
 have h5 := assign_z (m := false) (f := F + 1) (ne := 0) (i := 0) (g := 2) (fl := 1) (ar := -1) (n := n) (n2 := n) (i' := (lastT v ts).till) (i2 := (lastT v ts).till) (g' := 1) (g2 := 1) (fl' := 1) (fl2 := 1) (ar' := 0) (ar2 := 0) (u' := endT s.size) (u2 := endT s.size) hv hp1 (by rw [hvt]; exact hu) har (by decide) (by decide) (by rw [hvf, Int.zero_add]; exact hc) (by rw [Int.zero_add]; exact ha)
 have h6 := expression_z h5 rfl
 refine ⟨n, _, expr_z (m := false) h6 rfl hn (by omega), ?_, by omega⟩
 rw [← h2]
 exact htr
end
section
open Go.RowKit
def nmB (k : Nat) : ByteArray := ⟨(118 :: dcl k).toArray⟩
def rowN : Nat → List ByteArray → List (ByteArray × ByteArray)
 | _, [] => []
 | k, o :: os => (o, nmB (k + 1)) :: rowN (k + 1) os
theorem rowN_len : ∀ (os : List ByteArray) (k : Nat), (rowN k os).length = os.length
 | [], _ => rfl
 | o :: os, k => by rw [rowN, List.length_cons, rowN_len os, List.length_cons]
theorem rowN_ops : ∀ (os : List ByteArray) (k : Nat), (rowN k os).map (·.1) = os
 | [], _ => rfl
 | o :: os, k => by rw [rowN, List.map_cons, rowN_ops os]
theorem rowN_app : ∀ (a b : List ByteArray) (k : Nat), rowN k (a ++ b) = rowN k a ++ rowN (k + a.length) b
 | [], _, _ => rfl
 | o :: a, b, k => by
  rw [List.cons_append, rowN, rowN, rowN_app a b, List.cons_append, List.length_cons]
  congr 3
  omega
theorem tree_split {os : List ByteArray} {k c : Nat} (hc : cutN os = c) (hlt : c < os.length) {a b : Nd} (h1 : Tree (nmB k) (rowN k (os.take c)) a) (h2 : Tree (nmB (k + c + 1)) (rowN (k + c + 1) (os.drop (c + 1))) b) :
  Tree (nmB k) (rowN k os) (.mk 29 os[c] [a, b] 0 0) := by
 have e : os = os.take c ++ os[c] :: os.drop (c + 1) := by rw [← List.drop_eq_getElem_cons hlt, List.take_append_drop]
 have hl : (os.take c).length = c := by rw [List.length_take]; omega
 have e2 : rowN k os = rowN k (os.take c) ++ (os[c], nmB (k + c + 1)) :: rowN (k + c + 1) (os.drop (c + 1)) := by
  conv => lhs; rw [e]
  rw [rowN_app, hl, rowN]
 rw [e2]
 refine Tree.cut _ _ _ _ _ a b ?_ h1 h2
 rw [← e2, rowN_ops, rowN_len, hl, hc]
def StrR (w : World) (B : Nat) (os : List ByteArray) (v : Value) : Prop := ∃ a cap, v = .slice a os.length cap ∧ os.length ≤ cap ∧ ∀ j, (h : j < os.length) → ∃ g off, a = some ⟨g, off, none⟩ ∧ g < B ∧ w.cell? ⟨g, off + j, none⟩ = some (.string os[j])
theorem nm_app (k : Nat) : (⟨#[118]⟩ ++ ⟨(dcl k).toArray⟩ : ByteArray) = nmB k := by
 apply ba_ext
 rw [ByteArray.data_append]
 simp [nmB]
def SplA (k : Nat) (os : List ByteArray) (w : World) (e : Ending) (w' : World) : Prop := ∃ n u, e = .returned u ∧ Tree (nmB k) (rowN k os) n ∧ ndSize n = 2 * os.length + 1 ∧ NdV w' w.heap.size w'.heap.size n u ∧ Below w.heap.size w w'
set_option maxRecDepth 100000 in
set_option maxHeartbeats 4000000 in
theorem split_nil (k : Nat) (a : Option Addr) (cap : Nat) (w : World) (hk : k < 100) : Calls Tryz.prog 12 #[.slice a 0 cap, .int .i64 k] w (SplA k [] w) := by
 have hba := alloc_bel w (.cells #[.int .i64 0, .string ⟨#[]⟩, .slice none 0 0, .int .i64 0, .int .i64 0] 31)
 have hbq : NdBoxV (w.alloc (.cells #[.int .i64 0, .string ⟨#[]⟩, .slice none 0 0, .int .i64 0, .int .i64 0] 31)) w.heap.size 0 ⟨#[]⟩ (.slice none 0 0) 0 0 := heap_alloc_new _ _
 have hdl : (dcl k).length ≤ 2 := (dcl_row ⟨k, hk⟩).1
 go_enter Tryz.func12, Tryz.ntmps12
 go_upto_region 1 with fail
 generalize World.alloc w _ = w1 at *
 have HB := Lib.hid hba
 have HQ := Lib.hid hbq
 clear hba hbq
 go_wp2_with (first | (go_at_call 10; refine (decimal100 k hk _).mono ?_; rintro e w2 ⟨rfl, hb2⟩) | (go_at_call 13; refine (ident_any _ _).mono ?_; rintro e w3 ⟨rfl, hb3⟩; have HB3 := Lib.hid (bel_next (bel_next HB.out hb2) hb3); have hq3 := (HQ.out.bel hb2).bel hb3; have HQ3 := Lib.hid hq3; obtain ⟨x0, x1, x2, x3, x4, y0, y1, y2, y3, y4⟩ := NdBoxV.facts hq3; have hql := hq3.lt; clear hq3 hb2 hb3 HB HQ))
 refine bodyPost_ret (results_nd rfl _ _ w.heap.size rfl HQ3.out.lay) rfl ?_
 exact ⟨.mk 1 (⟨#[118]⟩ ++ ⟨(dcl k).toArray⟩) [] 0 0, _, rfl, by rw [nm_app]; exact Tree.nil _, rfl, ⟨none, 0, rfl, Nat.le_refl _, by show RowP _ _ _ [] none 0; rw [RowP]; trivial⟩, lay5_bel HB3.out (Nat.le_refl _) _ _ _ _ _⟩
end
section
open Go.RowKit
def SplR (os : List ByteArray) (w1 : World) (a i : Value) (wr : World) : Prop := ∃ c m : Nat, 1 ≤ m ∧ m ≤ os.length ∧ a = .int .i64 c ∧ i = .int .i64 m ∧ (∃ h : c < os.length, cutN os = cutL c os[c] m (os.drop m)) ∧ Below w1.heap.size w1 wr
theorem level_q (t : ByteArray) (w : World) : Calls Tryz.prog 19 #[.string t] w fun e w' => e = .returned (.int .i64 (levelB t)) ∧ w' = w := (level_any t w).mono fun _ _ h => ⟨h.1, h.2.symm⟩
theorem rowP_new {w W : World} {L : Nat} {T : TypeId} (ns : List Kd) (hn : ∀ x ∈ ns, x.1.kids.length ≤ x.2.2 ∧ RowP w L w.heap.size x.1.kids x.2.1 0) (hL : L ≤ w.heap.size)
  (hg : W.heap[w.heap.size]? = some (.cells (ns.flatMap cells5).toArray T (0, 0))) (hk : ∀ k, L ≤ k → k < w.heap.size → W.heap[k]? = w.heap[k]?) : RowP W L (w.heap.size + 1) (ns.map (·.1)) (some ⟨w.heap.size, 0, none⟩) 0 := by
 refine RowP_of fun j hj => ⟨w.heap.size, 0, rfl, ?_⟩
 have hj' : j < ns.length := by simpa using hj
 have hcell : ∀ i, i < 5 → W.cell? ⟨w.heap.size, j * 5 + i, none⟩ = (cells5 ns[j])[i]? := fun i hi => by
  rw [cell_of_row _ _ _ _ T (0, 0) hg, List.getElem?_toArray]
  exact cells5_get ns j i hj' hi
 obtain ⟨h1, h2⟩ := hn _ (List.getElem_mem hj')
 rw [List.getElem_map, NdC_eq, Nat.zero_add, Nat.zero_add]
 exact ⟨ns[j].2.1, ns[j].2.2, hL, Nat.lt_succ_self _, hcell 0 (by decide), hcell 1 (by decide), hcell 2 (by decide), hcell 3 (by decide), hcell 4 (by decide), h1, RowP_keep (Nat.le_refl _) (Nat.le_succ _) hk h2⟩
theorem spl_end {os : List ByteArray} {k c L0 cA cD : Nat} {w w5 w6 : World} {n1 n2 : Nd} {bA bD : Option Addr} {x : ByteArray} (hr : w.heap.size < L0) (hL : L0 ≤ w5.heap.size) (hA : RowP w5 L0 w5.heap.size n1.kids bA 0) (hcA : n1.kids.length ≤ cA) (hb2 : Below w5.heap.size w5 w6)
  (hD : RowP w6 w5.heap.size w6.heap.size n2.kids bD 0) (hcD : n2.kids.length ≤ cD) (hq : NdBoxV w6 w.heap.size 0 ⟨#[]⟩ (.slice none 0 0) 0 0) (hb : Below w.heap.size w w6) (hcc : cutN os = c) (hc : c < os.length) (hx : os[c] = x)
  (ht1 : Tree (nmB k) (rowN k (os.take c)) n1) (hs1 : ndSize n1 = 2 * (os.take c).length + 1) (ht2 : Tree (nmB (k + c + 1)) (rowN (k + c + 1) (os.drop (c + 1))) n2) (hs2 : ndSize n2 = 2 * (os.drop (c + 1)).length + 1) {W : World}
  (hW : W = (lay5 w6 w.heap.size 29 x (.slice (some ⟨w6.heap.size, 0, none⟩) 2 2) 0 0).alloc (.cells (([(n1, bA, cA), (n2, bD, cD)] : List Kd).flatMap cells5).toArray 31)) :
  NdBoxV W w.heap.size 29 x (.slice (some ⟨w6.heap.size, 0, none⟩) 2 2) 0 0 ∧ SplA k os w (.returned (.agg #[.int .i64 29, .string x, .slice (some ⟨w6.heap.size, 0, none⟩) 2 2, .int .i64 0, .int .i64 0])) W := by
 have hsz : (lay5 w6 w.heap.size 29 x (.slice (some ⟨w6.heap.size, 0, none⟩) 2 2) 0 0).heap.size = w6.heap.size := lay5_size _ _ _ _ _ _ _
 have hnew := heap_alloc_new (lay5 w6 w.heap.size 29 x (.slice (some ⟨w6.heap.size, 0, none⟩) 2 2) 0 0) (.cells (([(n1, bA, cA), (n2, bD, cD)] : List Kd).flatMap cells5).toArray 31)
 rw [hsz, ← hW] at hnew
 have h56 := hb2.size
 have hk : ∀ i, L0 ≤ i → i < w6.heap.size → W.heap[i]? = w6.heap[i]? := fun i h1 h2 => by
  rw [hW]
  exact (Below.heap_alloc _ _ _ (by rw [hsz]; exact h2)).trans (lay5_block _ _ _ _ _ _ _ _ (by omega))
 have hWs : W.heap.size = w6.heap.size + 1 := by rw [hW, World.size_alloc, hsz]
 have hrow := rowP_new (T := 31) (L := L0) [(n1, bA, cA), (n2, bD, cD)] (fun y hy => by
  simp only [List.mem_cons, List.not_mem_nil, or_false] at hy
  rcases hy with rfl | rfl
  ·exact ⟨hcA, RowP_keep (Nat.le_refl _) h56 (fun i _ h2 => hb2.block i h2) hA⟩
  ·exact ⟨hcD, RowP_keep hL (Nat.le_refl _) (fun _ _ _ => rfl) hD⟩) (Nat.le_trans hL h56) hnew hk
 refine ⟨?_, .mk 29 x [n1, n2] 0 0, _, rfl, ?_, ?_, ⟨_, 2, rfl, Nat.le_refl _, ?_⟩, ?_⟩
 ·rw [hW]
  exact (hq.lay).bel (alloc_bel _ _)
 ·subst hx
  exact tree_split hcc hc ht1 ht2
 ·rw [List.length_take] at hs1
  rw [List.length_drop] at hs2
  rw [ndSize, ndSizes, ndSizes, ndSizes, hs1, hs2]
  omega
 ·rw [hWs]
  exact RowP_keep (Nat.le_of_lt hr) (Nat.le_refl _) (fun _ _ _ => rfl) hrow
 ·rw [hW]
  exact (lay5_bel hb (Nat.le_refl _) _ _ _ _ _).alloc (by rw [hsz]; exact hb.size) _
set_option maxRecDepth 100000 in
set_option maxHeartbeats 8000000 in
theorem split_step (N : Nat) (ih : ∀ (os : List ByteArray) (k : Nat) (v : Value) (w : World) (B : Nat), os.length ≤ N → StrR w B os v → B ≤ w.heap.size → k + os.length < 100 → Calls Tryz.prog 12 #[v, .int .i64 k] w (SplA k os w))
  (os : List ByteArray) (k : Nat) (g off cap : Nat) (w : World) (hN : os.length ≤ N + 1) (h0 : 0 < os.length) (hcap : os.length ≤ cap) (hg : g < w.heap.size) (hk : k + os.length < 100) (hcell : ∀ j, (h : j < os.length) → w.cell? ⟨g, off + j, none⟩ = some (.string os[j])) :
  Calls Tryz.prog 12 #[.slice (some ⟨g, off, none⟩) os.length cap, .int .i64 k] w (SplA k os w) := by
 have IH := Lib.hid ih
 have HC := Lib.hid hcell
 have hba := alloc_bel w (.cells #[.int .i64 0, .string ⟨#[]⟩, .slice none 0 0, .int .i64 0, .int .i64 0] 31)
 have hbq : NdBoxV (w.alloc (.cells #[.int .i64 0, .string ⟨#[]⟩, .slice none 0 0, .int .i64 0, .int .i64 0] 31)) w.heap.size 0 ⟨#[]⟩ (.slice none 0 0) 0 0 := heap_alloc_new _ _
 clear ih hcell
 go_enter Tryz.func12, Tryz.ntmps12
 go_upto_region 1 with fail
 generalize World.alloc w _ = w1 at *
 have HB := Lib.hid hba
 have HQ := Lib.hid hbq
 clear hba hbq
 have hn0 : ((os.length : Int) == 0) = false := beq_eq_false_iff_ne.2 (by omega)
 go_wp2_with fail
 go_loopw [5, 6, 7, 8] (fun a i _ _ wr => SplR os w1 a i wr) (fun _ i _ _ _ => os.length - (intOf i).toNat)
 case atStart =>
  refine ⟨0, 1, Nat.le_refl _, h0, rfl, rfl, ⟨h0, ?_⟩, Below.refl _ _⟩
  cases os with
  | nil => cases h0
  | cons o os => rfl
 case round =>
  obtain ⟨c, m, hm1, hm2, rfl, rfl, ⟨hc, hcut⟩, hbel⟩ := hrel
  have hb2 := bel_next HB.out hbel
  have hcw : ∀ j, (h : j < os.length) → wr.cell? ⟨g, off + j, none⟩ = some (.string os[j]) := fun j h => (World.cell?_of_block (hb2.block g hg)).trans (HC.out j h)
  have HB2 := Lib.hid hb2
  have hcut2 := Lib.hid hcut
  by_cases hlt : m < os.length
  ·have cm := hcw m hlt
   have cc := hcw c hc
   obtain ⟨x, hx⟩ : ∃ x, os[m] = x := ⟨_, rfl⟩
   obtain ⟨y, hy⟩ : ∃ y, os[c] = y := ⟨_, rfl⟩
   rw [hx] at cm
   rw [hy] at cc
   have h1 : (m : Int) < (os.length : Int) := by omega
   have h2 : (c : Int) < (os.length : Int) := by omega
   clear hcw hb2 hcut
   go_upto_region 7 with fail
   go_quiet ((go_at_call 19; exact Calls.quiet_of_same (level_q _ _)))
   generalize hwq : World.drewN wr _ = w3
   have hb3 : Below w1.heap.size w1 w3 := by rw [← hwq]; exact bel_drewN hbel _
   have cm3 := (World.cell?_of_block ((bel_next HB.out hb3).block g hg)).trans (HC.out m hlt)
   rw [hx] at cm3
   have HB3 := Lib.hid hb3
   have HX := Lib.hid hx
   have HY := Lib.hid hy
   clear hwq cm cc hb3 hbel hx hy HB2
   by_cases hA : levelB x < levelB y
   ·have HS : Hid (cutL c y m (os.drop m) = cutL m x (m + 1) (os.drop (m + 1))) := Lib.hid (by rw [List.drop_eq_getElem_cons hlt, HX.out, cutL, if_pos (.inl hA)])
    go_wp2_with fail
    go_roundw
    case rel => exact ⟨m, m + 1, by omega, by omega, rfl, by go_num, ⟨hlt, by rw [hcut2.out, HY.out, HX.out, HS.out]⟩, HB3.out⟩
    case measure => simp [intOf]; omega
   ·have hAd : decide (levelB x < levelB y) = false := decide_eq_false hA
    by_cases hE : levelB x = levelB y
    ·have hEq : (levelB x == levelB y) = true := by rw [hE, beq_self_eq_true]
     by_cases hR : x = ⟨#[42, 42]⟩
     ·have HS : Hid (cutL c y m (os.drop m) = cutL c y (m + 1) (os.drop (m + 1))) := Lib.hid (by rw [List.drop_eq_getElem_cons hlt, HX.out, cutL, if_neg (by rintro (h | ⟨_, h⟩); exact hA h; exact h hR)])
      have HQR := Lib.hid (fun W : World => show Calls Tryz.prog 20 #[.string x] W fun e w' => e = .returned (.bool true) ∧ W = w' from by have h := right_any x W; rwa [decide_eq_true hR] at h)
      clear hR hE hA
      go_wp2_with (go_at_call 20; refine (HQR.out _).mono ?_; rintro e w9 ⟨rfl, rfl⟩)
      go_roundw
      case rel => exact ⟨c, m + 1, by omega, by omega, rfl, by go_num, ⟨hc, by rw [hcut2.out, HY.out, HS.out]⟩, HB3.out⟩
      case measure => simp [intOf]; omega
     ·have HS : Hid (cutL c y m (os.drop m) = cutL m x (m + 1) (os.drop (m + 1))) := Lib.hid (by rw [List.drop_eq_getElem_cons hlt, HX.out, cutL, if_pos (.inr ⟨hE, hR⟩)])
      have HQR := Lib.hid (fun W : World => show Calls Tryz.prog 20 #[.string x] W fun e w' => e = .returned (.bool false) ∧ W = w' from by have h := right_any x W; rwa [decide_eq_false hR] at h)
      clear hR hE hA
      go_wp2_with (go_at_call 20; refine (HQR.out _).mono ?_; rintro e w9 ⟨rfl, rfl⟩)
      go_roundw
      case rel => exact ⟨m, m + 1, by omega, by omega, rfl, by go_num, ⟨hlt, by rw [hcut2.out, HY.out, HX.out, HS.out]⟩, HB3.out⟩
      case measure => simp [intOf]; omega
    ·have hEq : (levelB x == levelB y) = false := beq_eq_false_iff_ne.2 hE
     have HS : Hid (cutL c y m (os.drop m) = cutL c y (m + 1) (os.drop (m + 1))) := Lib.hid (by rw [List.drop_eq_getElem_cons hlt, HX.out, cutL, if_neg (by rintro (h | ⟨h, _⟩); exact hA h; exact hE h)])
     go_wp2_with fail
     go_roundw
     case rel => exact ⟨c, m + 1, by omega, by omega, rfl, by go_num, ⟨hc, by rw [hcut2.out, HY.out, HS.out]⟩, HB3.out⟩
     case measure => simp [intOf]; omega
  ·have hmm : m = os.length := by omega
   subst hmm
   have hcc : cutN os = c := by rw [hcut2.out, List.drop_length, cutL]
   have cc := hcw c hc
   have hq3 := HQ.out.bel hbel
   have HQ3 := Lib.hid hq3
   obtain ⟨x0, x1, x2, x3, x4, y0, y1, y2, y3, y4⟩ := NdBoxV.facts hq3
   have HA := Lib.hid (show ∀ W : World, Below w.heap.size w W → Calls Tryz.prog 12 #[.slice (some ⟨g, off, none⟩) c cap, .int .i64 k] W (SplA k (os.take c) W) from fun W hW => by
    have hl : (os.take c).length = c := by rw [List.length_take]; omega
    have h := IH.out (os.take c) k (.slice (some ⟨g, off, none⟩) c cap) W w.heap.size (by omega) ⟨some ⟨g, off, none⟩, cap, by rw [hl], by omega, fun j hj => ⟨g, off, rfl, hg, by
     rw [List.getElem_take]
     exact (World.cell?_of_block (hW.block g hg)).trans (HC.out j (by omega))⟩⟩ hW.size (by omega)
    exact h)
   have HD := Lib.hid (show ∀ (W : World) (a : Option Addr) (l cp : Nat) (z : Int), l = os.length - (c + 1) → l ≤ cp → (0 < l → a = some ⟨g, off + (c + 1), none⟩) → z = ((k + c + 1 : Nat) : Int) → Below w.heap.size w W → Calls Tryz.prog 12 #[.slice a l cp, .int .i64 z] W (SplA (k + c + 1) (os.drop (c + 1)) W) from fun W a l cp z hl1 hl2 ha hz hW => by
    have hl : (os.drop (c + 1)).length = l := by rw [List.length_drop, hl1]
    subst hz
    refine IH.out (os.drop (c + 1)) (k + c + 1) (.slice a l cp) W w.heap.size (by omega) ⟨a, cp, by rw [hl], by omega, fun j hj => ⟨g, off + (c + 1), ha (by omega), hg, ?_⟩⟩ hW.size (by omega)
    rw [List.getElem_drop, Nat.add_assoc off]
    exact (World.cell?_of_block (hW.block g hg)).trans (HC.out (c + 1 + j) (by omega)))
   obtain ⟨x, hx⟩ : ∃ x, os[c] = x := ⟨_, rfl⟩
   rw [hx] at cc
   have HX := Lib.hid hx
   have h2 : (c : Int) < (os.length : Int) := by omega
   have h3 : (c : Int) + 1 ≤ (os.length : Int) := by omega
   have h4 : (0 : Int) ≤ (c : Int) + 1 := by omega
   have h5 : (os.length : Int) ≤ (cap : Int) := by omega
   have h6 : ((c : Int) + 1).toNat = c + 1 := by omega
   have hc0 : ¬ cap = 0 := by omega
   have hwr : IntKind.i64.wrap ((c : Int) + 1) = (c : Int) + 1 := by rw [IntKind.wrap_i64]; omega
   have HCC := Lib.hid hcc
   have HBW := Lib.hid (Below.drew (bel_next HB.out hbel))
   have ccd : wr.drew.cell? ⟨g, off + c, none⟩ = some (.string x) := cc
   have HQD := Lib.hid (show NdBoxV wr.drew w.heap.size 0 ⟨#[]⟩ (.slice none 0 0) 0 0 from hq3)
   have HR0 := Lib.hid HQD.out.lt
   clear hcw hb2 hbel HC hcut hcut2 IH hx hq3 cc HQ3 x0 x1 x2 x3 x4 y0 y1 y2 y3 y4 hcc
   by_cases hcp : cap = c + 1
   ·have HLC := Lib.hid (show os.length = c + 1 by omega)
    subst hcp
    go_upto_region 10 with fail
    obtain ⟨x0, x1, x2, x3, x4, y0, y1, y2, y3, y4⟩ := NdBoxV.facts HQD.out
    go_region_with (first | (go_at_call_of 12 (Value.int IntKind.i64 (k : Int)); refine (HA.out _ HBW.out).mono ?_; rintro e w5 ⟨n1, z1, rfl, ht1, hs1, hv1, hb1⟩; obtain ⟨bA, cA, rfl, hcA, hrA⟩ := NdV.kd hv1; have HB1 := Lib.hid hb1.size; replace ccd := (World.cell?_of_block (hb1.block g (Nat.lt_of_lt_of_le hg HBW.out.size))).trans ccd; replace HBW := Lib.hid (bel_next HBW.out hb1); replace HQD := Lib.hid (NdBoxV.bel HQD.out hb1); have hql := HQD.out.lt; have hgl := Nat.lt_of_lt_of_le hg HBW.out.size; clear x0 x1 x2 x3 x4 y0 y1 y2 y3 y4; obtain ⟨x0, x1, x2, x3, x4, y0, y1, y2, y3, y4⟩ := NdBoxV.facts HQD.out) | (go_at_call 12; refine (HD.out _ _ _ _ _ (by have := HLC.out; omega) (by omega) (fun h => by first | rfl | (have := HLC.out; exfalso; omega)) (by push_cast; omega) HBW.out).mono ?_; rintro e w6 ⟨n2, z2, rfl, ht2, hs2, hv2, hb2⟩; obtain ⟨bD, cD, rfl, hcD, hrD⟩ := NdV.kd hv2; have HB3 := Lib.hid hb2; replace ccd := (World.cell?_of_block (hb2.block g (Nat.lt_of_lt_of_le hg HBW.out.size))).trans ccd; replace HBW := Lib.hid (bel_next HBW.out hb2); replace HQD := Lib.hid (NdBoxV.bel HQD.out hb2); have hql2 := HQD.out.lt; have hgl2 := Nat.lt_of_lt_of_le hg HBW.out.size; clear x0 x1 x2 x3 x4 y0 y1 y2 y3 y4; obtain ⟨x0, x1, x2, x3, x4, y0, y1, y2, y3, y4⟩ := NdBoxV.facts HQD.out))
    all_goals
     go_wp2_with fail
     have hE := spl_end (k := k) (w := w) HR0.out HB1.out hrA hcA HB3.out hrD hcD HQD.out HBW.out HCC.out hc HX.out ht1 hs1 ht2 hs2 rfl
     exact bodyPost_ret (results_nd rfl _ _ w.heap.size rfl hE.1) rfl hE.2
   ·go_upto_region 10 with fail
    obtain ⟨x0, x1, x2, x3, x4, y0, y1, y2, y3, y4⟩ := NdBoxV.facts HQD.out
    go_region_with (first | (go_at_call_of 12 (Value.int IntKind.i64 (k : Int)); refine (HA.out _ HBW.out).mono ?_; rintro e w5 ⟨n1, z1, rfl, ht1, hs1, hv1, hb1⟩; obtain ⟨bA, cA, rfl, hcA, hrA⟩ := NdV.kd hv1; have HB1 := Lib.hid hb1.size; replace ccd := (World.cell?_of_block (hb1.block g (Nat.lt_of_lt_of_le hg HBW.out.size))).trans ccd; replace HBW := Lib.hid (bel_next HBW.out hb1); replace HQD := Lib.hid (NdBoxV.bel HQD.out hb1); have hql := HQD.out.lt; have hgl := Nat.lt_of_lt_of_le hg HBW.out.size; clear x0 x1 x2 x3 x4 y0 y1 y2 y3 y4; obtain ⟨x0, x1, x2, x3, x4, y0, y1, y2, y3, y4⟩ := NdBoxV.facts HQD.out) | (go_at_call 12; refine (HD.out _ _ _ _ _ (by omega) (by omega) (fun h => by first | rfl | (exfalso; omega)) (by push_cast; omega) HBW.out).mono ?_; rintro e w6 ⟨n2, z2, rfl, ht2, hs2, hv2, hb2⟩; obtain ⟨bD, cD, rfl, hcD, hrD⟩ := NdV.kd hv2; have HB3 := Lib.hid hb2; replace ccd := (World.cell?_of_block (hb2.block g (Nat.lt_of_lt_of_le hg HBW.out.size))).trans ccd; replace HBW := Lib.hid (bel_next HBW.out hb2); replace HQD := Lib.hid (NdBoxV.bel HQD.out hb2); have hql2 := HQD.out.lt; have hgl2 := Nat.lt_of_lt_of_le hg HBW.out.size; clear x0 x1 x2 x3 x4 y0 y1 y2 y3 y4; obtain ⟨x0, x1, x2, x3, x4, y0, y1, y2, y3, y4⟩ := NdBoxV.facts HQD.out))
    all_goals
     go_wp2_with fail
     have hE := spl_end (k := k) (w := w) HR0.out HB1.out hrA hcA HB3.out hrD hcD HQD.out HBW.out HCC.out hc HX.out ht1 hs1 ht2 hs2 rfl
     exact bodyPost_ret (results_nd rfl _ _ w.heap.size rfl hE.1) rfl hE.2
theorem split_any : ∀ (N : Nat) (os : List ByteArray) (k : Nat) (v : Value) (w : World) (B : Nat), os.length ≤ N → StrR w B os v → B ≤ w.heap.size → k + os.length < 100 → Calls Tryz.prog 12 #[v, .int .i64 k] w (SplA k os w)
 | 0, os, k, v, w, B, hN, hv, _, hk => by
  obtain rfl := List.length_eq_zero_iff.1 (Nat.le_zero.1 hN)
  obtain ⟨a, cap, rfl, _, _⟩ := hv
  exact split_nil k a cap w (by simpa using hk)
 | N + 1, [], k, v, w, B, _, hv, _, hk => by
  obtain ⟨a, cap, rfl, _, _⟩ := hv
  exact split_nil k a cap w (by simpa using hk)
 | N + 1, o :: os, k, v, w, B, hN, hv, hB, hk => by
  obtain ⟨a, cap, rfl, hcap, hcell⟩ := hv
  obtain ⟨g, off, rfl, hg, _⟩ := hcell 0 (Nat.succ_pos _)
  refine split_step N (fun os k v w B => split_any N os k v w B) (o :: os) k g off cap w hN (Nat.succ_pos _) hcap (Nat.lt_of_lt_of_le hg hB) hk fun j hj => ?_
  obtain ⟨g', off', e, _, h⟩ := hcell j hj
  injection e with e
  injection e with e1 e2
  subst e1 e2
  exact h
end
section
open Go.RowKit
def IntsArg (w : World) (ao : Option Addr) (len : Nat) : Prop := ∀ j, j < len → ∃ b off, ao = some ⟨b, off, none⟩ ∧ b < w.heap.size ∧ ∃ z : Int, w.cell? ⟨b, off + j, none⟩ = some (.int .i64 z)
def okO (os : List (List UInt8)) : List ByteArray := os.map fun o => ⟨o.toArray⟩
def rowL : Nat → List (List UInt8) → List (List UInt8 × List UInt8)
 | _, [] => []
 | k, o :: os => (o, dcl (k + 1)) :: rowL (k + 1) os
theorem rowL_row2 : ∀ (os : List (List UInt8)) (k : Nat), (rowL k os).map row2 = rowN k (okO os)
 | [], _ => rfl
 | o :: os, k => by
  show row2 (o, dcl (k + 1)) :: (rowL (k + 1) os).map row2 = (_, nmB (k + 1)) :: rowN (k + 1) (okO os)
  rw [rowL_row2 os]
  rfl
theorem rowL_len : ∀ (os : List (List UInt8)) (k : Nat), (rowL k os).length = os.length
 | [], _ => rfl
 | o :: os, k => by rw [rowL, List.length_cons, rowL_len os, List.length_cons]
theorem rowL_snoc : ∀ (os : List (List UInt8)) (k : Nat) (o : List UInt8), rowL k (os ++ [o]) = rowL k os ++ [(o, dcl (k + os.length + 1))]
 | [], _, _ => rfl
 | a :: os, k, o => by
  rw [List.cons_append, rowL, rowL, rowL_snoc os, List.cons_append, List.length_cons, show k + 1 + os.length + 1 = k + (os.length + 1) + 1 by omega]
theorem txtR_snoc : ∀ (a : List (List UInt8 × List UInt8)) (x : List UInt8 × List UInt8), txtR (a ++ [x]) = txtR a ++ 32 :: (x.1 ++ 32 :: 118 :: x.2)
 | [], x => by simp [txtR]
 | y :: a, x => by rw [List.cons_append, txtR, txtR, txtR_snoc a x]; simp
theorem dcl_dg {i : Nat} (h : i < 100) : Dg (dcl i) := ⟨(dcl_row ⟨i, h⟩).2.1, (dcl_row ⟨i, h⟩).2.2⟩
theorem rowL_mem : ∀ (os : List (List UInt8)) (k : Nat), (∀ o ∈ os, o ∈ opsRow) → k + os.length < 100 → ∀ x ∈ rowL k os, x.1 ∈ opsRow ∧ Dg x.2
 | [], _, _, _, x, h => by cases h
 | o :: os, k, ho, hk, x, h => by
  rw [List.length_cons] at hk
  rcases List.mem_cons.1 h with rfl | h
  ·exact ⟨ho _ (.head _), dcl_dg (i := k + 1) (by omega)⟩
  ·exact rowL_mem os (k + 1) (fun o h => ho o (.tail _ h)) (by omega) x h
theorem opsRow_len : ∀ o ∈ opsRow, o.length ≤ 10 := by decide
theorem pickN (i : Int) (n : Nat) (hn : 0 < n) : ∃ a : Nat, (IntKind.u64.wrap i).tmod n = (a : Int) ∧ a < n := by
 have e : IntKind.u64.wrap i = i % 18446744073709551616 := rfl
 have h1 : 0 ≤ (IntKind.u64.wrap i).tmod n := by rw [e, Int.tmod_eq_emod_of_nonneg (by omega)]; exact Int.emod_nonneg _ (by omega)
 have h2 : (IntKind.u64.wrap i).tmod n < n := by rw [e, Int.tmod_eq_emod_of_nonneg (by omega)]; exact Int.emod_lt_of_pos _ (by omega)
 exact ⟨((IntKind.u64.wrap i).tmod n).toNat, by omega, by omega⟩
def StrS (g : Nat) (l : List (List UInt8)) (W : World) : Prop := g < W.heap.size ∧ ∀ a, (h : a < l.length) → W.cell? ⟨g, a, none⟩ = some (.string ⟨l[a].toArray⟩)
theorem StrS.new (w : World) (l : List (List UInt8)) (T : TypeId) : StrS w.heap.size l (w.alloc (.cells (l.map fun o => Value.string ⟨o.toArray⟩).toArray T)) := by
 refine ⟨by rw [World.size_alloc]; exact Nat.lt_succ_self _, fun a h => ?_⟩
 rw [cell_of_row _ _ _ _ T (0, 0) (heap_alloc_new _ _), List.getElem?_toArray, List.getElem?_map, List.getElem?_eq_getElem h]
 rfl
theorem StrS.bel {g : Nat} {l : List (List UInt8)} {w w' : World} (h : StrS g l w) (hb : Below w.heap.size w w') : StrS g l w' :=
 ⟨Nat.lt_of_lt_of_le h.1 hb.size, fun a ha => (World.cell?_of_block (hb.block g h.1)).trans (h.2 a ha)⟩
theorem StrS.lay {g r : Nat} {l : List (List UInt8)} {w : World} (h : StrS g l w) (hr : g ≠ r) (k : Int) (t : ByteArray) (v : Value) (f u : Int) : StrS g l (lay5 w r k t v f u) :=
 ⟨by rw [lay5_size]; exact h.1, fun a ha => (World.cell?_of_block (lay5_block _ _ _ _ _ _ _ _ hr)).trans (h.2 a ha)⟩
theorem cell_new1 (w : World) (u : Value) (T : TypeId) : ∀ j x, ([u] : List Value)[j]? = some x → (w.alloc (.cells #[u] T)).cell? ((⟨w.heap.size, 0, none⟩ : Addr).add j) = some x := by
 intro j x h
 cases j with
 | zero =>
  show (w.alloc (.cells #[u] T)).cell? ⟨w.heap.size, 0, none⟩ = some x
  rw [cell_of_row _ _ 0 _ T (0, 0) (heap_alloc_new _ _)]
  exact h
 | succ j => simp at h
theorem push_bel2 {B : Nat} {a w w1 : World} {o : Obj} {v : Value} {T : TypeId} {n m : Nat} {xs : List Value} (hb : Below B a w) (hB : B ≤ w.heap.size) (ho : w.ownsRow B T m v n xs) (hg : (w.alloc o).grownBy w1 v.ownBlock) : Below B a w1 := by
 refine (hb.alloc hB o).grown hg ?_ ?_
 ·rw [World.size_alloc]; omega
 ·intro k hk
  rcases ho.2 with ⟨rfl, _⟩ | ⟨g, cap, cur, rfl, h, _⟩
  ·cases hk
  ·cases hk; exact h
structure OSt (w : World) (os : List (List UInt8)) (ov sv : Value) (wr : World) : Prop where
 own : wr.ownsRow w.heap.size 9 1 ov os.length (os.map fun o => Value.string ⟨o.toArray⟩)
 bel : Below w.heap.size w wr
 mem : ∀ o ∈ os, o ∈ opsRow
 txt : ∃ S : ByteArray, sv = .string S ∧ S.data.toList = (118 :: dcl 0) ++ txtR (rowL 0 os) ∧ S.size ≤ 20 * os.length + 2
theorem OSt.strR {w wr : World} {os : List (List UInt8)} {ov sv : Value} (h : OSt w os ov sv wr) : StrR wr wr.heap.size (okO os) ov := by
 have hlen : (okO os).length = os.length := by simp [okO]
 have hx : (os.map fun o => Value.string ⟨o.toArray⟩) = (okO os).map Value.string := by simp [okO]
 have ho := h.own
 rcases ho.2 with ⟨e, hn⟩ | ⟨g, cap, cur, e, hg, hc, hle, _⟩
 ·refine ⟨none, 0, by rw [e, hlen, hn], by omega, fun j hj => by omega⟩
 ·refine ⟨some ⟨g, 0, none⟩, cap, by rw [e, hlen], by omega, fun j hj => ⟨g, 0, rfl, (Array.getElem?_eq_some_iff.1 hc).1, ?_⟩⟩
  rw [Nat.zero_add]
  subst e
  rw [ho.cellAt j (by omega), hx, List.getElem?_map, List.getElem?_eq_getElem hj]
  rfl
theorem OSt.next {w wr w2 w3 : World} {os : List (List UInt8)} {ov v : Value} {S X t : ByteArray} {o : List UInt8} {ob : Obj} {m : Nat} (h : OSt w os ov (.string S) wr) (hm : os.length = m) (hk : m < 40) (ho : o ∈ opsRow) (ht : (⟨o.toArray⟩ : ByteArray) = t) (hg : (wr.alloc ob).grownBy w2 ov.ownBlock)
  (hown : w2.ownsRow w.heap.size 9 1 v (m + 1) ((os.map fun o => Value.string ⟨o.toArray⟩) ++ [.string t])) (hb : Below w2.heap.size w2 w3) (hX : X.data.toList = S.data.toList ++ 32 :: (o ++ 32 :: 118 :: dcl (m + 1))) :
  OSt w (os ++ [o]) v (.string X) w3 := by
 subst hm
 subst ht
 refine ⟨?_, bel_next (push_bel2 h.bel h.bel.size h.own hg) hb, ?_, X, rfl, ?_, ?_⟩
 ·rw [List.length_append, List.map_append]
  exact own_below hown hb
 ·intro x hx
  rcases List.mem_append.1 hx with hx | hx
  ·exact h.mem x hx
  ·rw [List.mem_singleton.1 hx]; exact ho
 ·obtain ⟨S', e, h1, _⟩ := h.txt
  injection e with e
  subst e
  rw [rowL_snoc, txtR_snoc, hX, h1, Nat.zero_add]
  simp
 ·obtain ⟨S', e, h1, h2⟩ := h.txt
  injection e with e
  subst e
  have h3 := opsRow_len o ho
  have h4 := (dcl_row ⟨os.length + 1, by omega⟩).1
  simp only at h4
  have h5 := ba_size hX
  have h6 : S.data.toList.length = S.size := Array.length_toList
  rw [List.length_append, h6] at h5
  simp at h5 ⊢
  omega
theorem ops_is {os : List (List UInt8)} {S : ByteArray} (hm : ∀ o ∈ os, o ∈ opsRow) (hl : os.length ≤ 40) (hS : S.data.toList = (118 :: dcl 0) ++ txtR (rowL 0 os)) :
  ∃ n q, exprQ S false (48 + 3) = .ok n q ∧ ndSize n ≤ 81 ∧ ndSize (bareT n) ≤ 4194304 ∧ ∀ b, Tree (nmB 0) (rowN 0 (okO os)) b → sameNd (bareT n) b = true := by
 obtain ⟨n, q, h1, h2, h3⟩ := expr_ops 48 (Nat.le_refl _) (dcl 0) (rowL 0 os) (dcl_dg (by decide)) (rowL_mem os 0 hm (by omega)) (by rw [rowL_len]; exact hl) hS
 have h4 : bareT n = bareNd n := bareT_of (by omega)
 rw [rowL_row2] at h2
 refine ⟨n, q, h1, h3, by rw [h4]; exact Nat.le_trans (bare_size n) (by omega), fun b hb => ?_⟩
 rw [h4, Tree.uniq h2 hb]
 exact sameNd_refl b
set_option maxRecDepth 100000 in
set_option maxHeartbeats 16000000 in
theorem operators_law (ao : Option Addr) (len cap : Nat) (w : World) (hc : IntsArg w ao len) (hl : len ≤ 33554432) (hx : Lx w) :
  Calls Tryz.prog 3 #[.slice ao len cap] w fun e w' => e = .returned (.bool true) ∧ Below w.heap.size w w' := by
 obtain ⟨i1, hi1, hy0, hy1, hy2⟩ := info_parts infoStr
 have HC := Lib.hid hc
 have HX := Lib.hid hx
 clear hc hx
 go_enter Tryz.func3, Tryz.ntmps3
 go_wp2_with fail
 refine (awake_any w HX.out).mono ?_
 rintro e w1 ⟨rfl, hb1⟩
 go_wp2_with fail
 refine (operators_any _).mono ?_
 rintro e w9 ⟨rfl, rfl⟩
 have hr1 : StrS w1.heap.size opsRow (w1.alloc (.cells opsV 9)) := StrS.new w1 opsRow 9
 have hb2 : Below w.heap.size w (w1.alloc (.cells opsV 9)) := hb1.alloc hb1.size _
 generalize World.alloc w1 _ = w2 at *
 generalize w1.heap.size = g at *
 have HR := Lib.hid hr1
 have HB := Lib.hid hb2
 clear hb1 hr1 hb2
 go_wp2_with fail
 go_loopw [4, 5, 6, 7] (fun ov sv i _ wr => ∃ (j : Nat) (os : List (List UInt8)), j ≤ len ∧ j ≤ 40 ∧ i = .int .i64 j ∧ os.length = j ∧ OSt w2 os ov sv wr) (fun _ _ i _ _ => 40 - (intOf i).toNat)
 case atStart => exact ⟨0, [], Nat.zero_le _, Nat.zero_le _, rfl, rfl, ⟨World.ownsRow_nil _ _ _ _, Below.refl _ _, fun _ h => (by cases h), ⟨#[118, 48]⟩, rfl, rfl, by decide⟩⟩
 case round =>
  obtain ⟨j, os, hj, hj40, rfl, hos, hst⟩ := hrel
  have HST := Lib.hid hst
  have HB2 := Lib.hid (bel_next HB.out hst.bel)
  have hwz := hst.bel.size
  obtain ⟨S, rfl, hS, hSs⟩ := hst.txt
  have HS := Lib.hid hS
  have HRW := Lib.hid (HR.out.bel hst.bel)
  by_cases hlt : j < len ∧ j < 40
  ·obtain ⟨hlt, hlt40⟩ := hlt
   obtain ⟨b, off, rfl, hb, z, hz⟩ := HC.out j hlt
   rw [← HB2.out.cell (p := ⟨b, off + j, none⟩) hb] at hz
   obtain ⟨a, ha, ha2⟩ := pickN z 24 (by decide)
   replace ha : (IntKind.u64.wrap z).tmod 24 = (a : Int) := ha
   obtain ⟨x, hx⟩ : ∃ x, opsRow[a]'ha2 = x := ⟨_, rfl⟩
   have hxm : x ∈ opsRow := hx ▸ List.getElem_mem _
   have cx := HRW.out.2 a ha2
   have hxl := opsRow_len x hxm
   rw [hx] at cx
   obtain ⟨t, ht⟩ : ∃ t : ByteArray, (⟨x.toArray⟩ : ByteArray) = t := ⟨_, rfl⟩
   rw [ht] at cx
   have htl : t.data.toList = x := by rw [← ht]
   have hts : t.size ≤ 10 := by rw [ba_size htl]; exact hxl
   have HTL := Lib.hid htl
   have HT := Lib.hid ht
   have HXM := Lib.hid hxm
   have la : IntKind.i64.wrap (a : Int) = a := by rw [IntKind.wrap_i64]; omega
   have na : (0 : Int) ≤ (a : Int) := by omega
   have ma : (a : Int) < 24 := by omega
   obtain ⟨D, hD⟩ : ∃ D : ByteArray, (⟨(dcl (j + 1)).toArray⟩ : ByteArray) = D := ⟨_, rfl⟩
   have hDl : D.data.toList = dcl (j + 1) := by rw [← hD]
   have hDs : D.size ≤ 2 := by rw [ba_size hDl]; exact (dcl_row ⟨j + 1, by omega⟩).1
   have HDC := Lib.hid (fun W : World => show Calls Tryz.prog 10 #[.int .i64 ((j : Int) + 1)] W fun e w' => e = .returned (.string D) ∧ Below W.heap.size W w' from by have h := decimal100 (j + 1) (by omega) W; rw [hD] at h; exact h)
   have HDL := Lib.hid hDl
   clear hst hS hx hxm htl ht hxl hD hDl
   go_upto_region 10 with fail
   clear cx hz
   have hol : os.length ≤ 40 := by omega
   go_wp2_with (at_builtin; refine wpList_append_own_at _ rfl _ _ 24 rfl w2.heap.size 9 i1 (.string ⟨#[]⟩) 1 16 (by kernel_rfl) hi1 hy0 hy1 hy2 rfl (by decide) _ _ _ rfl (HST.out.own.alloc _) ⟨wr.heap.size, 0, none⟩ 1 1 [.string t] rfl rfl (cell_new1 _ _ _) (fun u hu => by simp at hu; subst hu; rfl) (by unfold maxLen; omega) (by omega) (by rw [World.size_alloc]; omega) ?_)
   intro v6 w6 hown6 hgrow6 _ _
   go_wp2_with (go_at_call 10; refine (HDC.out _).mono ?_; rintro e w7 ⟨rfl, hb7⟩)
   go_roundw
   case rel => exact ⟨j + 1, os ++ [x], hlt, by omega, by go_num, by simp [hos], HST.out.next hos hlt40 HXM.out HT.out hgrow6 hown6 hb7 (by simp [ByteArray.data_append, HTL.out, HDL.out])⟩
   case measure => simp [intOf]; omega
  ·have hend : j = len ∨ (j = 40 ∧ 40 < len) := by omega
   obtain ⟨n, q, hE, hz1, hz2, hT⟩ := ops_is hst.mem (by omega) hS
   have hokl : (okO os).length = os.length := by simp [okO]
   have HSP := Lib.hid (split_any 40 (okO os) 0 _ wr wr.heap.size (by omega) hst.strR (Nat.le_refl _) (by omega))
   have HI := Lib.hid (fun (W : World) (L : Nat) (nn : Nd) (vw : Value) (hv : NdV W L W.heap.size nn vw) (ht : Tree (nmB 0) (rowN 0 (okO os)) nn) (hb : Below wr.heap.size wr W) => by
    have h := same_is 51 (by decide) (by omega) hE (by omega) hz2 nn vw L W.heap.size W hv (Nat.le_refl _) (HX.out.bel (bel_next HB2.out hb))
    rw [hT nn ht] at h
    exact h)
   clear hst hE hz1 hz2 hT hS HC hokl
   rcases hend with rfl | ⟨rfl, hl40⟩
   all_goals
    go_wp2_with fail
    refine HSP.out.mono ?_
    rintro e w5 ⟨n1, u, rfl, ht, _, hv, hb⟩
    go_wp2_with fail
    refine (HI.out w5 _ n1 u hv ht hb).mono ?_
    rintro e w6 ⟨rfl, hb6⟩
    go_wp2_with fail
    go_ret
    exact ⟨rfl, bel_next (bel_next HB2.out hb) hb6⟩
end
section
theorem upto_mem {H : Type} {d : DataW H} {l : List (DataW H)} (hk : Rows.uptoSmall H l = true) (h : d ∈ l) : Rows.uptoBulk d ≤ 1048576 := by
 have hk' : Rows.uptoBulkAll l ≤ 1048576 := by simpa [Rows.uptoSmall] using hk
 refine Nat.le_trans ?_ hk'
 clear hk hk'
 induction l with
 | nil => cases h
 | cons x r ih =>
  simp only [Rows.uptoBulkAll]
  rcases List.mem_cons.1 h with e | e
  ·subst e; omega
  ·have := ih e; omega
end
end Go.Proofs.YtfnjjgmhjbhclaaGreatDoor
