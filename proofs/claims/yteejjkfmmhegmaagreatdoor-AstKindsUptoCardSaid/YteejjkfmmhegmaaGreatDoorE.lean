/- Contracts of read and Check. Conditions: at most 2^24 bytes; MaxLen holds a number. -/
import Derived.Test.YteejjkfmmhegmaaGreatDoorD
namespace Go.Proofs.YteejjkfmmhegmaaGreatDoor
open Go.RowKit

/-- a literal laid over another one. -/
theorem LitAt.lay {w : World} {b base0 base : Nat} {whole0 part0 power0 whole part power : ByteArray} {point0 ex0 minus0 big0 point ex minus big : Bool} (h : LitAt w b ⟨base0, whole0, point0, part0, ex0, minus0, power0, big0⟩) :
    LitAt ((((((((w.setCell ⟨b, 0, none⟩ (.int .i64 base)).setCell ⟨b, 1, none⟩ (.string whole)).setCell ⟨b, 2, none⟩ (.bool point)).setCell ⟨b, 3, none⟩ (.string part)).setCell ⟨b, 4, none⟩ (.bool ex)).setCell ⟨b, 5, none⟩ (.bool minus)).setCell ⟨b, 6, none⟩ (.string power)).setCell ⟨b, 7, none⟩ (.bool big)) b ⟨base, whole, point, part, ex, minus, power, big⟩ :=
  (LitAt.set (y := ⟨base, whole, point, part, ex, minus, power, big⟩) (LitAt.set (y := ⟨base, whole, point, part, ex, minus, power, big0⟩) (LitAt.set (y := ⟨base, whole, point, part, ex, minus, power0, big0⟩) (LitAt.set (y := ⟨base, whole, point, part, ex, minus0, power0, big0⟩) (LitAt.set (y := ⟨base, whole, point, part, ex0, minus0, power0, big0⟩) (LitAt.set (y := ⟨base, whole, point, part0, ex0, minus0, power0, big0⟩) (LitAt.set (y := ⟨base, whole, point0, part0, ex0, minus0, power0, big0⟩) (LitAt.set (y := ⟨base, whole0, point0, part0, ex0, minus0, power0, big0⟩) h 0 (.int .i64 base) rfl) 1 (.string whole) rfl) 2 (.bool point) rfl) 3 (.string part) rfl) 4 (.bool ex) rfl) 5 (.bool minus) rfl) 6 (.string power) rfl) 7 (.bool big) rfl)
/-- what read gives. -/
def readB (s : ByteArray) : Lit × Bool := ((scanB s).1, (scanB s).2.2 && (scanB s).2.1.toList.isEmpty)

set_option maxRecDepth 100000 in
set_option maxHeartbeats 1000000 in
theorem read_any (s : ByteArray) (w : World) (hs : s.size ≤ 16777216) (hM : MaxAt w) :
    Calls Tryz.prog 73 #[.string s] w fun e w' => e = .returned (.tuple #[(readB s).1.val, .bool (readB s).2]) ∧ Below w.heap.size w w' := by
  have hS := fun W (h : MaxAt W) => scan_any s W hs h
  have hr : readB s = ((scanB s).1, (scanB s).2.2 && (scanB s).2.1.toList.isEmpty) := rfl
  rw [hr]
  clear hr
  generalize scanB s = q at *
  obtain ⟨⟨base, whole, point, part, ex, minus, power, big⟩, r, f⟩ := q
  have HS := Lib.hid hS
  have HM := Lib.hid hM
  clear hS hM
  go_enter Tryz.func73, Tryz.ntmps73
  go_upto_region 1 with fail
  have hL : LitAt (w.alloc (.cells litZ.cells 76)) w.heap.size litZ := heap_alloc_new _ _
  have hB : Below w.heap.size w (w.alloc (.cells litZ.cells 76)) := (Below.refl _ _).alloc (Nat.le_refl _) _
  have hM1 := HM.out.below hB
  have e0 : (w.alloc (.cells litZ.cells 76)) = w.alloc (.cells #[.int .i64 0, .string ⟨#[]⟩, .bool false, .string ⟨#[]⟩, .bool false, .bool false, .string ⟨#[]⟩, .bool false] 76) := rfl
  rw [e0] at hL hB hM1
  generalize w.alloc (.cells #[.int .i64 0, .string ⟨#[]⟩, .bool false, .string ⟨#[]⟩, .bool false, .bool false, .string ⟨#[]⟩, .bool false] 76) = w0 at *
  have HS1 := Lib.hid (HS.out w0 hM1)
  have HL := Lib.hid hL
  clear e0 hL HS hM1
  go_upto_region 2 with (go_at_call 105; refine HS1.out.mono ?_; rintro e w1 ⟨rfl, hb1⟩; unfold Lit.val Lit.cells)
  have hLx : LitAt (w1.alloc (.cells (Lit.cells ⟨base, whole, point, part, ex, minus, power, big⟩) 76)) w1.heap.size ⟨base, whole, point, part, ex, minus, power, big⟩ := heap_alloc_new _ _
  have hlt1 : w.heap.size < w1.heap.size := Nat.lt_of_lt_of_le HL.out.lt hb1.size
  have hb2 : Below w0.heap.size w0 (w1.alloc (.cells (Lit.cells ⟨base, whole, point, part, ex, minus, power, big⟩) 76)) := bel_alloc hb1 _
  unfold Lit.cells at hLx hb2
  simp only at hLx hb2
  have hZ : LitAt _ w.heap.size litZ := HL.out.below hb2 HL.out.lt
  have hBf := hB.trans (hb2.mono hB.size)
  generalize w1.alloc (.cells #[.int .i64 base, .string whole, .bool point, .string part, .bool ex, .bool minus, .string power, .bool big] 76) = w2 at *
  generalize w1.heap.size = b4 at *
  obtain ⟨c0, c1, c2, c3, c4, c5, c6, c7, f0, f1, f2, f3, f4, f5, f6, f7⟩ := LitAt.facts hLx
  obtain ⟨d0, d1, d2, d3, d4, d5, d6, d7, g0, g1, g2, g3, g4, g5, g6, g7⟩ := LitAt.facts hZ
  have HZ := Lib.hid hZ
  have HBf := Lib.hid hBf
  clear hZ hLx hBf hb2 HS1 HL hb1 hB
  cases f with
  | true =>
    go_wp2_with fail
    (try simp only [Exit.inBlock, Exit.then])
    refine bodyPost_ret (results_lit2 rfl _ _ _ _ rfl (LitAt.lay HZ.out)) rfl ?_
    exact ⟨rfl, below_again HBf.out (Nat.le_refl _)⟩
  | false =>
    go_wp2_with fail
    (try simp only [Exit.inBlock, Exit.then])
    refine bodyPost_ret (results_lit2 rfl _ _ _ _ rfl (LitAt.lay HZ.out)) rfl ?_
    exact ⟨rfl, below_again HBf.out (Nat.le_refl _)⟩
/-- Check. -/
theorem check_any (s : ByteArray) (w : World) (hs : s.size ≤ 16777216) (hM : MaxAt w) :
    Calls Tryz.prog 47 #[.string s] w fun e w' => e = .returned (.int .i64 (if (readB s).2 = true then 0 else 200)) ∧ Below w.heap.size w w' := by
  have hR := read_any s w hs hM
  generalize readB s = q at *
  obtain ⟨x, f⟩ := q
  unfold Lit.val Lit.cells at hR
  have HR := Lib.hid hR
  clear hR hM
  cases f
  all_goals
    go_enter Tryz.func47, Tryz.ntmps47
    go_wp2_with (go_at_call 73; refine HR.out.mono ?_; rintro e w1 ⟨rfl, hb1⟩)
    go_ret
    exact ⟨rfl, bel_alloc hb1 _⟩
end Go.Proofs.YteejjkfmmhegmaaGreatDoor
