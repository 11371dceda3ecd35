/- Contract of the reader's comment, on. Conditions as in ..LC. -/
import Derived.Test.YteejjkfmmhegmaaGreatDoorLF
namespace Go.Proofs.YteejjkfmmhegmaaGreatDoor
open Go.RowKit

theorem is_lit (b : Nat) (s : ByteArray) (x : Rd) (l : List UInt8) (w : World) (hx : RdAt w b s x) (hp : x.at' ≤ s.size) :
    Calls Tryz.prog 136 #[.pointer (some ⟨b, 0, none⟩), .string ⟨l.toArray⟩] w fun e w' => e = .returned (.bool (Lib.hasPrefix (s.data.toList.drop x.at') l)) ∧ Below w.heap.size w w' := is_any b s x ⟨l.toArray⟩ w hx hp
/-- a reader, a comment under way, and the place of the answer. -/
structure Cst (b g r : Nat) (s : ByteArray) (w0 : World) (x : Rd) (c : Cm) (w : World) : Prop where
  rd : RdAt w b s x
  cm : CmAt w g c
  rs : CmAt w r ⟨0, ⟨#[]⟩, 0, 0⟩
  but : But b w0 w
  rdy : Ready b w
  le : x.at' ≤ s.size
  gg : w0.heap.size ≤ g
  rr : w0.heap.size ≤ r
  gb : g ≠ b
  rb : r ≠ b
  gr : g ≠ r
theorem Cst.bel {b g r : Nat} {s : ByteArray} {w0 w w' : World} {x : Rd} {c : Cm} (h : Cst b g r s w0 x c w) (hb : Below w.heap.size w w') : Cst b g r s w0 x c w' :=
  ⟨h.rd.bel hb, h.cm.bel hb, h.rs.bel hb, h.but.bel hb, h.rdy.next h.rd.lt hb, h.le, h.gg, h.rr, h.gb, h.rb, h.gr⟩
theorem Cst.step {b g r : Nat} {s : ByteArray} {w0 w w' : World} {x y : Rd} {c : Cm} (h : Cst b g r s w0 x c w) (hx : RdAt w' b s y) (hb : But b w w') (hl : y.at' ≤ s.size) : Cst b g r s w0 y c w' :=
  ⟨hx, h.cm.but hb h.gb, h.rs.but hb h.rb, h.but.trans hb, h.rdy.but h.rd.lt hb, hl, h.gg, h.rr, h.gb, h.rb, h.gr⟩
theorem Cst.setRd {b g r : Nat} {s : ByteArray} {w0 w : World} {x y : Rd} {c : Cm} (h : Cst b g r s w0 x c w) (k : Nat) (v : Value) (hy : (x.cells s).setIfInBounds k v = y.cells s) (hl : y.at' ≤ s.size) : Cst b g r s w0 y c (w.setCell ⟨b, k, none⟩ v) :=
  h.step (h.rd.set k v hy) ((But.refl b w).setCell k v) hl
theorem ready_set {b g : Nat} {w : World} (h : Ready b w) (hg : b ≤ g) (k : Nat) (v : Value) : Ready b (w.setCell ⟨g, k, none⟩ v) := h.bel ((Below.refl b w).setCell (p := ⟨g, k, none⟩) hg v)
theorem Cst.setCm {b g r : Nat} {s : ByteArray} {w0 w : World} {x : Rd} {c d : Cm} (h : Cst b g r s w0 x c w) (hbg : b < w0.heap.size) (k : Nat) (v : Value) (hy : c.cells.setIfInBounds k v = d.cells) : Cst b g r s w0 x d (w.setCell ⟨g, k, none⟩ v) :=
  ⟨h.rd.other (Ne.symm h.gb) k v, h.cm.set k v hy, h.rs.other (Ne.symm h.gr) k v, ⟨h.but.os, h.but.tape, h.but.output, by have := h.but.size; simpa [World.setCell] using this, fun i h1 h2 => by
    rw [Below.heap_setCell _ _ _ _ (show i ≠ g by have := h.gg; omega)]
    exact h.but.block i h1 h2⟩, ready_set h.rdy (by have := h.gg; omega) k v, h.le, h.gg, h.rr, h.gb, h.rb, h.gr⟩
theorem two_new {w : World} (a c : Cm) : CmAt ((w.alloc (.cells a.cells 127)).alloc (.cells c.cells 127)) w.heap.size a ∧ CmAt ((w.alloc (.cells a.cells 127)).alloc (.cells c.cells 127)) (w.heap.size + 1) c := by
  constructor
  · exact (Below.heap_alloc _ _ _ (by rw [World.size_alloc]; omega)).trans (heap_alloc_new _ _)
  · have h := heap_alloc_new (w.alloc (.cells a.cells 127)) (.cells c.cells 127)
    rw [World.size_alloc] at h
    exact h
theorem cst_start {b : Nat} {s : ByteArray} {w : World} {x : Rd} (hx : RdAt w b s x) (hr : Ready b w) (hp : x.at' ≤ s.size) (c : Cm) :
    Cst b (w.heap.size + 1) w.heap.size s w x c ((w.alloc (.cells (Cm.cells ⟨0, ⟨#[]⟩, 0, 0⟩) 127)).alloc (.cells c.cells 127)) := by
  obtain ⟨h1, h2⟩ := two_new (w := w) ⟨0, ⟨#[]⟩, 0, 0⟩ c
  have hb : Below w.heap.size w ((w.alloc (.cells (Cm.cells ⟨0, ⟨#[]⟩, 0, 0⟩) 127)).alloc (.cells c.cells 127)) := two_alloc _ _ _
  have hl := hx.lt
  exact ⟨hx.bel hb, h2, h1, .of_below hb, hr.next hl hb, hp, by omega, Nat.le_refl _, by omega, by omega, by omega⟩
theorem Cst.ret {b g r : Nat} {s : ByteArray} {w0 w : World} {x : Rd} {c : Cm} {kind from' till : Int} {text : ByteArray} (h : Cst b g r s w0 x c w) :
    RdAt ((((w.setCell ⟨r, 0, none⟩ (.int .i64 kind)).setCell ⟨r, 1, none⟩ (.string text)).setCell ⟨r, 2, none⟩ (.int .i64 from')).setCell ⟨r, 3, none⟩ (.int .i64 till)) b s x ∧
    But b w0 ((((w.setCell ⟨r, 0, none⟩ (.int .i64 kind)).setCell ⟨r, 1, none⟩ (.string text)).setCell ⟨r, 2, none⟩ (.int .i64 from')).setCell ⟨r, 3, none⟩ (.int .i64 till)) :=
  ⟨(((h.rd.other (Ne.symm h.rb) 0 _).other (Ne.symm h.rb) 1 _).other (Ne.symm h.rb) 2 _).other (Ne.symm h.rb) 3 _, but_lay h.but h.rr⟩
/-- what comment answers where one begins. -/
def CmPost (b : Nat) (s : ByteArray) (p : Nat) (line : Bool) (fl cd : Int) (K : Int) (w : World) (o : CmO) (e : Ending) (w' : World) : Prop := match o with
  | .fine n ln => e = .returned (.tuple #[(⟨K, s.extract p (p + 2 + n), p, ((p + 2 + n : Nat) : Int)⟩ : Cm).val, .bool true]) ∧ RdAt w' b s ⟨p + 2 + n, line || ln, fl, cd⟩ ∧ But b w w'
  | .bad off code => ∃ (c : Cm) (x' : Rd), e = .returned (.tuple #[c.val, .bool false]) ∧ RdAt w' b s x' ∧ x'.code = code ∧ x'.fail = (if code = 507 then (p : Int) else ((p + 2 + off : Nat) : Int)) ∧ But b w w'
set_option maxRecDepth 20000 in
set_option maxHeartbeats 2000000 in
theorem comment_no (b : Nat) (s : ByteArray) (x : Rd) (w : World) (hx : RdAt w b s x) (hr : Ready b w) (hp : x.at' ≤ s.size)
    (h1 : Lib.hasPrefix (s.data.toList.drop x.at') [47, 47] = false) (h2 : Lib.hasPrefix (s.data.toList.drop x.at') [47, 42] = false) (h3 : x.at' = 0 → Lib.hasPrefix (s.data.toList.drop x.at') [35, 33] = false) :
    Calls Tryz.prog 133 #[.pointer (some ⟨b, 0, none⟩)] w fun e w' => ∃ c : Cm, e = .returned (.tuple #[c.val, .bool false]) ∧ RdAt w' b s x ∧ But b w w' := by
  obtain ⟨p, line, fl, cd⟩ := x
  simp only at hp h1 h2 h3 ⊢
  have hk := cst_start hx hr hp ⟨0, ⟨#[]⟩, p, 0⟩
  have hbl := hx.lt
  obtain ⟨c0, c1, c2, c3, c4, f0, f1, f2, f3, f4⟩ := RdAt.facts hx
  have c0' : (w.alloc (.cells (Cm.cells ⟨0, ⟨#[]⟩, 0, 0⟩) 127)).cell? ⟨b, 0, none⟩ = some (.int .i64 p) := ((hx.bel (bel_alloc (Below.refl _ _) _)).cell 0)
  clear hx hr
  go_enter Tryz.func133, Tryz.ntmps133
  go_upto_region 3 with fail
  have e0 : ((w.alloc (.cells (Cm.cells ⟨0, ⟨#[]⟩, 0, 0⟩) 127)).alloc (.cells (Cm.cells ⟨0, ⟨#[]⟩, p, 0⟩) 127)) = ((w.alloc (.cells #[.int .i64 0, .string ⟨#[]⟩, .int .i64 0, .int .i64 0] 127)).alloc (.cells #[.int .i64 0, .string ⟨#[]⟩, .int .i64 p, .int .i64 0] 127)) := rfl
  rw [e0] at hk
  generalize ((w.alloc (.cells #[.int .i64 0, .string ⟨#[]⟩, .int .i64 0, .int .i64 0] 127)).alloc (.cells #[.int .i64 0, .string ⟨#[]⟩, .int .i64 p, .int .i64 0] 127)) = w1 at *
  clear c0 c1 c2 c3 c4 f0 f1 f2 f3 f4 e0 c0'
  have HBL := Lib.hid hbl
  have HK := Lib.hid hk
  clear hk hbl
  generalize hgg : w.heap.size + 1 = g at *
  clear hgg
  generalize hrr : w.heap.size = r at *
  rw [← hrr] at HBL
  clear hrr
  obtain ⟨c0, c1, c2, c3, c4, f0, f1, f2, f3, f4⟩ := RdAt.facts HK.out.rd; obtain ⟨d0, d1, d2, d3, g0, g1, g2, g3⟩ := CmAt.facts HK.out.cm; obtain ⟨z0, z1, z2, z3, y0, y1, y2, y3⟩ := CmAt.facts HK.out.rs
  by_cases hp0 : p = 0
  · have h4 := h3 hp0
    have hpz : ((p : Int) == 0) = true := by rw [beq_iff_eq]; omega
    clear h3 hp0
    go_wp2_with (go_at_call 136; refine (is_lit b s _ _ _ HK.out.rd HK.out.le).mono ?_; rintro e w9 ⟨rfl, hb⟩; clear c0 c1 c2 c3 c4 f0 f1 f2 f3 f4 d0 d1 d2 d3 g0 g1 g2 g3 z0 z1 z2 z3 y0 y1 y2 y3; replace HK := Lib.hid (HK.out.bel hb); clear hb; obtain ⟨c0, c1, c2, c3, c4, f0, f1, f2, f3, f4⟩ := RdAt.facts HK.out.rd; obtain ⟨d0, d1, d2, d3, g0, g1, g2, g3⟩ := CmAt.facts HK.out.cm; obtain ⟨z0, z1, z2, z3, y0, y1, y2, y3⟩ := CmAt.facts HK.out.rs)
    (try simp only [Exit.inBlock, Exit.then])
    refine bodyPost_ret (results_cm2 rfl _ _ _ _ rfl (CmAt.lay HK.out.rs)) rfl ?_
    exact ⟨_, rfl, HK.out.ret⟩
  · have hpz : ((p : Int) == 0) = false := by rw [beq_eq_false_iff_ne]; omega
    clear h3 hp0
    go_wp2_with (go_at_call 136; refine (is_lit b s _ _ _ HK.out.rd HK.out.le).mono ?_; rintro e w9 ⟨rfl, hb⟩; clear c0 c1 c2 c3 c4 f0 f1 f2 f3 f4 d0 d1 d2 d3 g0 g1 g2 g3 z0 z1 z2 z3 y0 y1 y2 y3; replace HK := Lib.hid (HK.out.bel hb); clear hb; obtain ⟨c0, c1, c2, c3, c4, f0, f1, f2, f3, f4⟩ := RdAt.facts HK.out.rd; obtain ⟨d0, d1, d2, d3, g0, g1, g2, g3⟩ := CmAt.facts HK.out.cm; obtain ⟨z0, z1, z2, z3, y0, y1, y2, y3⟩ := CmAt.facts HK.out.rs)
    (try simp only [Exit.inBlock, Exit.then])
    refine bodyPost_ret (results_cm2 rfl _ _ _ _ rfl (CmAt.lay HK.out.rs)) rfl ?_
    exact ⟨_, rfl, HK.out.ret⟩
end Go.Proofs.YteejjkfmmhegmaaGreatDoor
