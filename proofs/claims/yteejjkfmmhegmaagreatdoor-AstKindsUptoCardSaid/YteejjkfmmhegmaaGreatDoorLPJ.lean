/- lex.Next, its walk. Conditions as in ..LPI. -/
import Derived.Test.YteejjkfmmhegmaaGreatDoorLPG
import Derived.Test.YteejjkfmmhegmaaGreatDoorLPI
namespace Go.Proofs.YteejjkfmmhegmaaGreatDoor
open Go.RowKit

/-- Next under way: the reader, the result's place, the comments met. -/
structure Nst (b g : Nat) (s : ByteArray) (w0 : World) (x : Rd) (v : Value) (cs : List Cm) (w : World) : Prop where
  rd : RdAt w b s x
  res : TkAt w g Tk.zero
  own : OwnC (b + 1) w v cs
  bel : Below w0.heap.size w0 w
  rdy : Ready b w
  spc : Spc b w
  gl : g < b
  gg : w0.heap.size ≤ g
theorem Nst.step {b g : Nat} {s : ByteArray} {w0 w w' : World} {x y : Rd} {v : Value} {cs : List Cm} (h : Nst b g s w0 x v cs w) (hx : RdAt w' b s y) (hb : But b w w') : Nst b g s w0 y v cs w' :=
  ⟨hx, h.res.but hb (Nat.ne_of_lt h.gl), own_but h.own hb (Nat.lt_succ_self b), h.bel.trans (hb.below (by have := h.gl; have := h.gg; omega) h.bel.size), h.rdy.but h.rd.lt hb, h.spc.but h.rd.lt hb, h.gl, h.gg⟩
theorem Nst.next {b g : Nat} {s : ByteArray} {w0 w w' : World} {x : Rd} {v : Value} {cs : List Cm} (h : Nst b g s w0 x v cs w) (hb : Below w.heap.size w w') : Nst b g s w0 x v cs w' := h.step (h.rd.bel hb) (.of_below hb)
theorem OwnC.lt {B : Nat} {w : World} {v : Value} {cs : List Cm} (h : OwnC B w v cs) : v.ownBlock ≠ some w.heap.size := by
  rcases h.2 with ⟨e, _⟩ | ⟨g, cap, cur, e, _, hh, _⟩
  · rw [e]; intro hc; cases hc
  · rw [e]
    intro hc
    have h1 := (Array.getElem?_eq_some_iff.1 hh).1
    have h2 : g = w.heap.size := by injection hc
    omega
theorem OwnC.ne {B g : Nat} {w : World} {v : Value} {cs : List Cm} (h : OwnC B w v cs) (hg : g < B) : v.ownBlock ≠ some g := by
  rcases h.2 with ⟨e, _⟩ | ⟨g', cap, cur, e, h1, hh, _⟩
  · rw [e]; intro hc; cases hc
  · rw [e]
    intro hc
    have h2 : g' = g := by injection hc
    omega
theorem OwnC.lay5 {B g : Nat} {w : World} {v : Value} {cs : List Cm} {u0 u1 u2 u3 u4 : Value} (h : OwnC B w v cs) (hg : g < B) :
    OwnC B (((((w.setCell ⟨g, 0, none⟩ u0).setCell ⟨g, 1, none⟩ u1).setCell ⟨g, 2, none⟩ u2).setCell ⟨g, 3, none⟩ u3).setCell ⟨g, 4, none⟩ u4) v cs := by
  have hn := h.ne hg
  exact own_setCell 4 (own_setCell 3 (own_setCell 2 (own_setCell 1 (own_setCell 0 h hn) hn) hn) hn) hn
/-- .. and the token under way. -/
structure Nst2 (b g h : Nat) (s : ByteArray) (w0 : World) (x : Rd) (v : Value) (cs : List Cm) (t : Tk) (w : World) : Prop where
  n : Nst b g s w0 x v cs w
  tok : TkAt w h t
  bh : b < h
  vh : v.ownBlock ≠ some h
theorem Nst2.step {b g h : Nat} {s : ByteArray} {w0 w w' : World} {x y : Rd} {v : Value} {cs : List Cm} {t : Tk} (k : Nst2 b g h s w0 x v cs t w) (hx : RdAt w' b s y) (hb : But b w w') : Nst2 b g h s w0 y v cs t w' :=
  ⟨k.n.step hx hb, k.tok.but hb (Nat.ne_of_gt k.bh), k.bh, k.vh⟩
theorem Nst2.next {b g h : Nat} {s : ByteArray} {w0 w w' : World} {x : Rd} {v : Value} {cs : List Cm} {t : Tk} (k : Nst2 b g h s w0 x v cs t w) (hb : Below w.heap.size w w') : Nst2 b g h s w0 x v cs t w' := k.step (k.n.rd.bel hb) (.of_below hb)
theorem Nst2.set {b g h : Nat} {s : ByteArray} {w0 w : World} {x : Rd} {v : Value} {cs : List Cm} {t y : Tk} (k : Nst2 b g h s w0 x v cs t w) (j : Nat) (u : Value) (hy : t.cells.setIfInBounds j u = y.cells) : Nst2 b g h s w0 x v cs y (w.setCell ⟨h, j, none⟩ u) := by
  have hbl : Below b w (w.setCell ⟨h, j, none⟩ u) := (Below.refl b w).setCell (p := ⟨h, j, none⟩) (Nat.le_of_lt k.bh) u
  have h1 := k.bh
  have h2 := k.n.gl
  have h3 := k.n.gg
  exact ⟨⟨k.n.rd.other (by omega) j u, k.n.res.other (by omega) j u, own_setCell j k.n.own k.vh, k.n.bel.setCell (p := ⟨h, j, none⟩) (show w0.heap.size ≤ h by omega) u, k.n.rdy.bel hbl, k.n.spc.bel hbl, k.n.gl, k.n.gg⟩, k.tok.set j u hy, k.bh, k.vh⟩
theorem Nst.tok0 {b g : Nat} {s : ByteArray} {w0 w : World} {x : Rd} {v : Value} {cs : List Cm} (h : Nst b g s w0 x v cs w) : Nst2 b g w.heap.size s w0 x v cs Tk.zero (w.alloc (.cells Tk.zero.cells 83)) :=
  ⟨h.next (Below.alloc (Below.refl _ _) (Nat.le_refl _) _), tk_new w, h.rd.lt, h.own.lt⟩
theorem Nst.tokN {b g : Nat} {s : ByteArray} {w0 w : World} {x : Rd} {v : Value} {cs : List Cm} (h : Nst b g s w0 x v cs w) (t : Tk) : Nst2 b g w.heap.size s w0 x v cs t (w.alloc (.cells t.cells 83)) :=
  ⟨h.next (Below.alloc (Below.refl _ _) (Nat.le_refl _) _), heap_alloc_new _ _, h.rd.lt, h.own.lt⟩
theorem Nst2.drew {b g h : Nat} {s : ByteArray} {w0 w : World} {x : Rd} {v : Value} {cs : List Cm} {t : Tk} (k : Nst2 b g h s w0 x v cs t w) : Nst2 b g h s w0 x v cs t w.drew := k.next (Below.drew (Below.refl _ _))
theorem rd_lay5 {w : World} {b g : Nat} {s : ByteArray} {x : Rd} {u0 u1 u2 u3 u4 : Value} (h : RdAt w b s x) (hg : g < b) :
    RdAt (((((w.setCell ⟨g, 0, none⟩ u0).setCell ⟨g, 1, none⟩ u1).setCell ⟨g, 2, none⟩ u2).setCell ⟨g, 3, none⟩ u3).setCell ⟨g, 4, none⟩ u4) b s x :=
  ((((h.other (Nat.ne_of_gt hg) 0 _).other (Nat.ne_of_gt hg) 1 _).other (Nat.ne_of_gt hg) 2 _).other (Nat.ne_of_gt hg) 3 _).other (Nat.ne_of_gt hg) 4 _
theorem rd_new (w : World) (s : ByteArray) (x : Rd) : RdAt (w.alloc (.cells (x.cells s) 106)) w.heap.size s x := heap_alloc_new _ _
theorem Nst.start {s : ByteArray} {w w1 : World} {p : Nat} (hk : TkAt w1 w.heap.size Tk.zero) (hb : Below w.heap.size w w1) (hl : w.heap.size < w1.heap.size) (hT : Lib.Utf8Tabs 2 3 w) (hM : MaxAt w) (hS : Lib.TabIs Tryz.prog w "strings.asciiSpace" .u8 Lib.asciiSpaceTab) :
    Nst w1.heap.size w.heap.size s w ⟨p, false, 0, 0⟩ (.slice none 0 0) [] (w1.alloc (.cells (Rd.cells s ⟨p, false, 0, 0⟩) 106)) := by
  have hb2 : Below w.heap.size w (w1.alloc (.cells (Rd.cells s ⟨p, false, 0, 0⟩) 106)) := hb.alloc hb.size _
  exact ⟨rd_new _ _ _, hk.bel (Below.alloc (Below.refl _ w1) (Nat.le_refl _) _), World.ownsRow_nil _ _ _ _, hb2, ⟨w, hb.size, hT, hM, hb2⟩, ⟨w, hb.size, hS, hb2⟩, hl, Nat.le_refl _⟩
theorem nxt_ok {s : ByteArray} {p : Nat} {goal : Int} (h : ¬ (goal < 1 ∨ 5 < goal ∨ (goal = 3 ∧ ¬ Lib.hasPrefix (s.data.toList.drop p) [125] = true))) :
    nxt s p goal = match (if goal = 3 ∨ goal = 4 then BtO.fine p false [] else btw s p false) with
    | .bad place code => .bad place code
    | .fine q line cs => match tokT goal (s.data.toList.drop q) with
      | .fine kind n => .fine kind q n line cs
      | .bad off code => .bad ((q + off : Nat) : Int) code := by
  unfold nxt
  rw [if_neg h]
  rfl
end Go.Proofs.YteejjkfmmhegmaaGreatDoor
