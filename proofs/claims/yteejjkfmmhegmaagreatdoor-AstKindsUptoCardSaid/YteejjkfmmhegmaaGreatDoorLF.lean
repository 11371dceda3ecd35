/- Contract of the reader's comment. Conditions as in ..LC. -/
import Derived.Test.YteejjkfmmhegmaaGreatDoorLE
namespace Go.Proofs.YteejjkfmmhegmaaGreatDoor
open Go.RowKit

/-- a comment. -/
structure Cm where
  kind : Int
  text : ByteArray
  from' : Int
  till : Int
def Cm.cells (x : Cm) : Array Value := #[.int .i64 x.kind, .string x.text, .int .i64 x.from', .int .i64 x.till]
def Cm.val (x : Cm) : Value := .agg x.cells
def CmAt (w : World) (g : Nat) (x : Cm) : Prop := w.heap[g]? = some (.cells x.cells 127 (0, 0))
theorem CmAt.lt {w : World} {g : Nat} {x : Cm} (h : CmAt w g x) : g < w.heap.size := (Array.getElem?_eq_some_iff.1 h).1
theorem CmAt.bel {w w' : World} {g : Nat} {x : Cm} (h : CmAt w g x) (hb : Below w.heap.size w w') : CmAt w' g x := (hb.block g h.lt).trans h
theorem CmAt.but {w w' : World} {g b : Nat} {x : Cm} (h : CmAt w g x) (hb : But b w w') (hg : g ≠ b) : CmAt w' g x := (hb.block g h.lt hg).trans h
theorem CmAt.cell {w : World} {g : Nat} {x : Cm} (h : CmAt w g x) (k : Nat) : w.cell? ⟨g, k, none⟩ = x.cells[k]? := by
  unfold CmAt at h
  simp [World.cell?, h]
theorem CmAt.frozen {w : World} {g : Nat} {x : Cm} (h : CmAt w g x) (k : Nat) : w.frozen? ⟨g, k, none⟩ = false := frozen_of_row w g k x.cells _ h
theorem CmAt.set {w : World} {g : Nat} {x y : Cm} (h : CmAt w g x) (k : Nat) (v : Value) (hy : x.cells.setIfInBounds k v = y.cells) : CmAt (w.setCell ⟨g, k, none⟩ v) g y := by
  have := heap_setCell_same w g k x.cells 127 v h
  rw [hy] at this
  exact this
theorem CmAt.other {w : World} {g b : Nat} {x : Cm} (h : CmAt w g x) (hb : g ≠ b) (k : Nat) (v : Value) : CmAt (w.setCell ⟨b, k, none⟩ v) g x := (Below.heap_setCell _ _ _ _ hb).trans h
theorem RdAt.other {w : World} {g b : Nat} {s : ByteArray} {x : Rd} (h : RdAt w b s x) (hb : b ≠ g) (k : Nat) (v : Value) : RdAt (w.setCell ⟨g, k, none⟩ v) b s x := (Below.heap_setCell _ _ _ _ hb).trans h
theorem CmAt.facts {w : World} {g : Nat} {kind from' till : Int} {text : ByteArray} (h : CmAt w g ⟨kind, text, from', till⟩) :
    w.cell? ⟨g, 0, none⟩ = some (.int .i64 kind) ∧ w.cell? ⟨g, 1, none⟩ = some (.string text) ∧ w.cell? ⟨g, 2, none⟩ = some (.int .i64 from') ∧ w.cell? ⟨g, 3, none⟩ = some (.int .i64 till) ∧
    w.frozen? ⟨g, 0, none⟩ = false ∧ w.frozen? ⟨g, 1, none⟩ = false ∧ w.frozen? ⟨g, 2, none⟩ = false ∧ w.frozen? ⟨g, 3, none⟩ = false :=
  ⟨h.cell 0, h.cell 1, h.cell 2, h.cell 3, h.frozen 0, h.frozen 1, h.frozen 2, h.frozen 3⟩
theorem CmAt.lay {w : World} {g : Nat} {k0 f0 t0 kind from' till : Int} {x0 text : ByteArray} (h : CmAt w g ⟨k0, x0, f0, t0⟩) :
    CmAt ((((w.setCell ⟨g, 0, none⟩ (.int .i64 kind)).setCell ⟨g, 1, none⟩ (.string text)).setCell ⟨g, 2, none⟩ (.int .i64 from')).setCell ⟨g, 3, none⟩ (.int .i64 till)) g ⟨kind, text, from', till⟩ :=
  CmAt.set (x := ⟨kind, text, from', t0⟩) (CmAt.set (x := ⟨kind, text, f0, t0⟩) (CmAt.set (x := ⟨kind, x0, f0, t0⟩) (CmAt.set (x := ⟨k0, x0, f0, t0⟩) h 0 _ rfl) 1 _ rfl) 2 _ rfl) 3 _ rfl
theorem but_lay {w w' : World} {b g : Nat} {kind from' till : Int} {text : ByteArray} (h : But b w w') (hg : w.heap.size ≤ g) :
    But b w ((((w'.setCell ⟨g, 0, none⟩ (.int .i64 kind)).setCell ⟨g, 1, none⟩ (.string text)).setCell ⟨g, 2, none⟩ (.int .i64 from')).setCell ⟨g, 3, none⟩ (.int .i64 till)) :=
  ⟨h.os, h.tape, h.output, by have := h.size; simpa [World.setCell] using this, fun k h1 h2 => by
    rw [Below.heap_setCell _ _ _ _ (show k ≠ g by omega), Below.heap_setCell _ _ _ _ (show k ≠ g by omega), Below.heap_setCell _ _ _ _ (show k ≠ g by omega), Below.heap_setCell _ _ _ _ (show k ≠ g by omega)]
    exact h.block k h1 h2⟩
theorem run_cm {w : World} {g : Nat} {x : Cm} (h : CmAt w g x) : (loadVar 127 ⟨g, 0, none⟩).run Tryz.prog w = .ok x.val w :=
  run_loadVar_row w g 127 127 x.cells (0, 0) _ h Tryz.underlying127 rfl (by kernel_rfl)
theorem results_cm2 {fn : Func} {p u : Tmp} (h : fn.results = #[.cell p 127, .tmp u]) (tmps : Array Value) (w : World) (g : Nat) (x : Cm) (hp : tmps.getD p undef = .pointer (some ⟨g, 0, none⟩)) (hx : CmAt w g x) :
    (results fn tmps).run Tryz.prog w = .ok (.tuple #[x.val, tmps.getD u undef]) w := by
  have hp' : tmps[p]?.getD undef = .pointer (some ⟨g, 0, none⟩) := by simpa using hp
  simp [results, h, hp', asAddr, run_cm hx]
/-- how a comment goes on behind its first two bytes: how long it is, and whether a line ends in it; or the place of a fault. -/
inductive CmO where
  | fine (n : Nat) (ln : Bool)
  | bad (off : Nat) (code : Int)
def CmO.shift (m : Nat) (l : Bool) : CmO → CmO
  | .fine n ln => .fine (m + n) (l || ln)
  | .bad off code => .bad (m + off) code
def cmtF (blk : Bool) : Nat → List UInt8 → CmO
  | 0, _ => .bad 0 0
  | f + 1, l =>
    if blk = true ∧ Lib.hasPrefix l [42, 47] = true then .fine 2 false
    else if (nx l).2 = 0 then (if blk = true then .bad 0 507 else .fine 0 false)
    else if (nx l).2 < 0 then .bad 0 502
    else if blk = false ∧ endsR (nx l).1 = true then .fine 0 false
    else (cmtF blk f (l.drop (nx l).2.toNat)).shift (nx l).2.toNat (endsR (nx l).1)
theorem cmtF_fuel (blk : Bool) : ∀ (f g : Nat) (l : List UInt8), l.length < f → l.length < g → cmtF blk f l = cmtF blk g l
  | 0, _, _, h, _ => by omega
  | _ + 1, 0, _, _, h => by omega
  | f + 1, g + 1, l, h1, h2 => by
    rw [cmtF, cmtF]
    by_cases e0 : (nx l).2 < 0
    · simp only [if_pos e0]
    · by_cases e1 : (nx l).2 = 0
      · simp only [if_pos e1]
      · obtain ⟨n, h3, h4, h5, h6⟩ := nx_pos (l := l) (by omega)
        rw [cmtF_fuel blk f g (l.drop (nx l).2.toNat) (by rw [List.length_drop]; omega) (by rw [List.length_drop]; omega)]
def cmt (blk : Bool) (l : List UInt8) : CmO := cmtF blk (l.length + 1) l
theorem cmt_step (blk : Bool) (l : List UInt8) : cmt blk l =
    if blk = true ∧ Lib.hasPrefix l [42, 47] = true then .fine 2 false
    else if (nx l).2 = 0 then (if blk = true then .bad 0 507 else .fine 0 false)
    else if (nx l).2 < 0 then .bad 0 502
    else if blk = false ∧ endsR (nx l).1 = true then .fine 0 false
    else (cmt blk (l.drop (nx l).2.toNat)).shift (nx l).2.toNat (endsR (nx l).1) := by
  unfold cmt
  rw [cmtF]
  by_cases e0 : (nx l).2 < 0
  · simp only [if_pos e0]
  · by_cases e1 : (nx l).2 = 0
    · simp only [if_pos e1]
    · obtain ⟨n, h3, h4, h5, h6⟩ := nx_pos (l := l) (by omega)
      have hn0 : n ≠ 0 := by omega
      have hl : l ≠ [] := fun e => hn0 (h6.1 e)
      have hl2 := List.length_pos_iff.2 hl
      rw [cmtF_fuel blk l.length ((l.drop (nx l).2.toNat).length + 1) (l.drop (nx l).2.toNat) (by rw [List.length_drop]; omega) (by rw [List.length_drop]; omega)]
theorem shift_shift (o : CmO) (m k : Nat) (a c : Bool) : (o.shift m a).shift k c = o.shift (k + m) (c || a) := by
  cases o with
  | fine n ln => simp [CmO.shift, Nat.add_assoc, Bool.or_assoc]
  | bad off code => simp [CmO.shift, Nat.add_assoc]
end Go.Proofs.YteejjkfmmhegmaaGreatDoor
