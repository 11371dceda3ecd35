/- Facts of a struct variable that holds a number's Parts (as for num.literal). No condition. -/
import Derived.Test.YthnchejhcmpipaaDoorE
namespace Go.Proofs.YthnchejhcmpipaaDoor
open Go.RowKit

def ParAt (w : World) (b : Nat) (x : Lit) : Prop := w.heap[b]? = some (.cells x.cells 49 (0, 0))
theorem ParAt.lt {w : World} {b : Nat} {x : Lit} (h : ParAt w b x) : b < w.heap.size := (Array.getElem?_eq_some_iff.1 h).1
theorem ParAt.below {w w' : World} {b B : Nat} {x : Lit} (h : ParAt w b x) (hb : Below B w w') (hB : b < B) : ParAt w' b x := (hb.block b hB).trans h
theorem ParAt.cell {w : World} {b : Nat} {x : Lit} (h : ParAt w b x) (k : Nat) : w.cell? ⟨b, k, none⟩ = x.cells[k]? := by
  unfold ParAt at h
  simp [World.cell?, h]
theorem ParAt.frozen {w : World} {b : Nat} {x : Lit} (h : ParAt w b x) (k : Nat) : w.frozen? ⟨b, k, none⟩ = false := frozen_of_row w b k x.cells _ h
theorem ParAt.set {w : World} {b : Nat} {x y : Lit} (h : ParAt w b x) (k : Nat) (v : Value) (hy : x.cells.setIfInBounds k v = y.cells) : ParAt (w.setCell ⟨b, k, none⟩ v) b y := by
  have := heap_setCell_same w b k x.cells 49 v h
  rw [hy] at this
  exact this
theorem ParAt.facts {w : World} {b base : Nat} {whole part power : ByteArray} {point ex minus big : Bool} (h : ParAt w b ⟨base, whole, point, part, ex, minus, power, big⟩) :
    w.cell? ⟨b, 0, none⟩ = some (.int .i64 base) ∧ w.cell? ⟨b, 1, none⟩ = some (.string whole) ∧ w.cell? ⟨b, 2, none⟩ = some (.bool point) ∧ w.cell? ⟨b, 3, none⟩ = some (.string part) ∧ w.cell? ⟨b, 4, none⟩ = some (.bool ex) ∧ w.cell? ⟨b, 5, none⟩ = some (.bool minus) ∧ w.cell? ⟨b, 6, none⟩ = some (.string power) ∧ w.cell? ⟨b, 7, none⟩ = some (.bool big) ∧
    w.frozen? ⟨b, 0, none⟩ = false ∧ w.frozen? ⟨b, 1, none⟩ = false ∧ w.frozen? ⟨b, 2, none⟩ = false ∧ w.frozen? ⟨b, 3, none⟩ = false ∧ w.frozen? ⟨b, 4, none⟩ = false ∧ w.frozen? ⟨b, 5, none⟩ = false ∧ w.frozen? ⟨b, 6, none⟩ = false ∧ w.frozen? ⟨b, 7, none⟩ = false :=
  ⟨h.cell 0, h.cell 1, h.cell 2, h.cell 3, h.cell 4, h.cell 5, h.cell 6, h.cell 7, h.frozen 0, h.frozen 1, h.frozen 2, h.frozen 3, h.frozen 4, h.frozen 5, h.frozen 6, h.frozen 7⟩
theorem ParAt.again {w : World} {b base : Nat} {whole part power : ByteArray} {point ex minus big : Bool} (h : ParAt w b ⟨base, whole, point, part, ex, minus, power, big⟩) :
    ParAt ((((((((w.setCell ⟨b, 0, none⟩ (.int .i64 base)).setCell ⟨b, 1, none⟩ (.string whole)).setCell ⟨b, 2, none⟩ (.bool point)).setCell ⟨b, 3, none⟩ (.string part)).setCell ⟨b, 4, none⟩ (.bool ex)).setCell ⟨b, 5, none⟩ (.bool minus)).setCell ⟨b, 6, none⟩ (.string power)).setCell ⟨b, 7, none⟩ (.bool big)) b ⟨base, whole, point, part, ex, minus, power, big⟩ :=
  (ParAt.set (y := ⟨base, whole, point, part, ex, minus, power, big⟩) (ParAt.set (y := ⟨base, whole, point, part, ex, minus, power, big⟩) (ParAt.set (y := ⟨base, whole, point, part, ex, minus, power, big⟩) (ParAt.set (y := ⟨base, whole, point, part, ex, minus, power, big⟩) (ParAt.set (y := ⟨base, whole, point, part, ex, minus, power, big⟩) (ParAt.set (y := ⟨base, whole, point, part, ex, minus, power, big⟩) (ParAt.set (y := ⟨base, whole, point, part, ex, minus, power, big⟩) (ParAt.set (y := ⟨base, whole, point, part, ex, minus, power, big⟩) h 0 (.int .i64 base) rfl) 1 (.string whole) rfl) 2 (.bool point) rfl) 3 (.string part) rfl) 4 (.bool ex) rfl) 5 (.bool minus) rfl) 6 (.string power) rfl) 7 (.bool big) rfl)
theorem run_par {w : World} {b : Nat} {x : Lit} (h : ParAt w b x) : (loadVar 49 ⟨b, 0, none⟩).run Tryd.prog w = .ok x.val w :=
  run_loadVar_row w b 49 49 x.cells (0, 0) _ h Tryd.underlying49 rfl (by kernel_rfl)
theorem results_par2 {fn : Func} {p u : Tmp} (h : fn.results = #[.cell p 49, .tmp u]) (tmps : Array Value) (w : World) (b : Nat) (x : Lit) (hp : tmps.getD p undef = .pointer (some ⟨b, 0, none⟩)) (hx : ParAt w b x) :
    (results fn tmps).run Tryd.prog w = .ok (.tuple #[x.val, tmps.getD u undef]) w := by
  have hp' : tmps[p]?.getD undef = .pointer (some ⟨b, 0, none⟩) := by simpa using hp
  simp [results, h, hp', asAddr, run_par hx]
theorem ParAt.drew {w : World} {b : Nat} {x : Lit} (h : ParAt w b x) : ParAt w.drew b x := h
theorem ParAt.lay {w : World} {b base0 base : Nat} {whole0 part0 power0 whole part power : ByteArray} {point0 ex0 minus0 big0 point ex minus big : Bool} (h : ParAt w b ⟨base0, whole0, point0, part0, ex0, minus0, power0, big0⟩) :
    ParAt ((((((((w.setCell ⟨b, 0, none⟩ (.int .i64 base)).setCell ⟨b, 1, none⟩ (.string whole)).setCell ⟨b, 2, none⟩ (.bool point)).setCell ⟨b, 3, none⟩ (.string part)).setCell ⟨b, 4, none⟩ (.bool ex)).setCell ⟨b, 5, none⟩ (.bool minus)).setCell ⟨b, 6, none⟩ (.string power)).setCell ⟨b, 7, none⟩ (.bool big)) b ⟨base, whole, point, part, ex, minus, power, big⟩ :=
  (ParAt.set (y := ⟨base, whole, point, part, ex, minus, power, big⟩) (ParAt.set (y := ⟨base, whole, point, part, ex, minus, power, big0⟩) (ParAt.set (y := ⟨base, whole, point, part, ex, minus, power0, big0⟩) (ParAt.set (y := ⟨base, whole, point, part, ex, minus0, power0, big0⟩) (ParAt.set (y := ⟨base, whole, point, part, ex0, minus0, power0, big0⟩) (ParAt.set (y := ⟨base, whole, point, part0, ex0, minus0, power0, big0⟩) (ParAt.set (y := ⟨base, whole, point0, part0, ex0, minus0, power0, big0⟩) (ParAt.set (y := ⟨base, whole0, point0, part0, ex0, minus0, power0, big0⟩) h 0 (.int .i64 base) rfl) 1 (.string whole) rfl) 2 (.bool point) rfl) 3 (.string part) rfl) 4 (.bool ex) rfl) 5 (.bool minus) rfl) 6 (.string power) rfl) 7 (.bool big) rfl)
end Go.Proofs.YthnchejhcmpipaaDoor
