/- Contract of lex.Next. Conditions: the library's tables lie as they are laid; at most 2^24 bytes. -/
import Derived.Test.YteejjkfmmhegmaaGreatDoorLPH
namespace Go.Proofs.YteejjkfmmhegmaaGreatDoor
open Go.RowKit

/-- a token. -/
structure Tk where
  kind : Int
  text : ByteArray
  from' : Int
  till : Int
  line : Bool
def Tk.cells (x : Tk) : Array Value := #[.int .i64 x.kind, .string x.text, .int .i64 x.from', .int .i64 x.till, .bool x.line]
def Tk.val (x : Tk) : Value := .agg x.cells
def Tk.zero : Tk := ⟨0, ⟨#[]⟩, 0, 0, false⟩
def TkAt (w : World) (g : Nat) (x : Tk) : Prop := w.heap[g]? = some (.cells x.cells 83 (0, 0))
theorem TkAt.lt {w : World} {g : Nat} {x : Tk} (h : TkAt w g x) : g < w.heap.size := (Array.getElem?_eq_some_iff.1 h).1
theorem TkAt.bel {w w' : World} {g : Nat} {x : Tk} (h : TkAt w g x) (hb : Below w.heap.size w w') : TkAt w' g x := (hb.block g h.lt).trans h
theorem TkAt.but {w w' : World} {g b : Nat} {x : Tk} (h : TkAt w g x) (hb : But b w w') (hg : g ≠ b) : TkAt w' g x := (hb.block g h.lt hg).trans h
theorem TkAt.cell {w : World} {g : Nat} {x : Tk} (h : TkAt w g x) (k : Nat) : w.cell? ⟨g, k, none⟩ = x.cells[k]? := by
  unfold TkAt at h
  simp [World.cell?, h]
theorem TkAt.frozen {w : World} {g : Nat} {x : Tk} (h : TkAt w g x) (k : Nat) : w.frozen? ⟨g, k, none⟩ = false := frozen_of_row w g k x.cells _ h
theorem TkAt.set {w : World} {g : Nat} {x y : Tk} (h : TkAt w g x) (k : Nat) (v : Value) (hy : x.cells.setIfInBounds k v = y.cells) : TkAt (w.setCell ⟨g, k, none⟩ v) g y := by
  have := heap_setCell_same w g k x.cells 83 v h
  rw [hy] at this
  exact this
theorem TkAt.other {w : World} {g b : Nat} {x : Tk} (h : TkAt w g x) (hb : g ≠ b) (k : Nat) (v : Value) : TkAt (w.setCell ⟨b, k, none⟩ v) g x := (Below.heap_setCell _ _ _ _ hb).trans h
theorem TkAt.facts {w : World} {g : Nat} {kind from' till : Int} {text : ByteArray} {line : Bool} (h : TkAt w g ⟨kind, text, from', till, line⟩) :
    w.cell? ⟨g, 0, none⟩ = some (.int .i64 kind) ∧ w.cell? ⟨g, 1, none⟩ = some (.string text) ∧ w.cell? ⟨g, 2, none⟩ = some (.int .i64 from') ∧ w.cell? ⟨g, 3, none⟩ = some (.int .i64 till) ∧ w.cell? ⟨g, 4, none⟩ = some (.bool line) ∧
    w.frozen? ⟨g, 0, none⟩ = false ∧ w.frozen? ⟨g, 1, none⟩ = false ∧ w.frozen? ⟨g, 2, none⟩ = false ∧ w.frozen? ⟨g, 3, none⟩ = false ∧ w.frozen? ⟨g, 4, none⟩ = false :=
  ⟨h.cell 0, h.cell 1, h.cell 2, h.cell 3, h.cell 4, h.frozen 0, h.frozen 1, h.frozen 2, h.frozen 3, h.frozen 4⟩
theorem TkAt.lay {w : World} {g : Nat} {x : Tk} {kind from' till : Int} {text : ByteArray} {line : Bool} (h : TkAt w g x) :
    TkAt (((((w.setCell ⟨g, 0, none⟩ (.int .i64 kind)).setCell ⟨g, 1, none⟩ (.string text)).setCell ⟨g, 2, none⟩ (.int .i64 from')).setCell ⟨g, 3, none⟩ (.int .i64 till)).setCell ⟨g, 4, none⟩ (.bool line)) g ⟨kind, text, from', till, line⟩ := by
  obtain ⟨k0, t0, f0, l0, b0⟩ := x
  exact TkAt.set (x := ⟨kind, text, from', till, b0⟩) (TkAt.set (x := ⟨kind, text, from', l0, b0⟩) (TkAt.set (x := ⟨kind, text, f0, l0, b0⟩) (TkAt.set (x := ⟨kind, t0, f0, l0, b0⟩) (TkAt.set (x := ⟨k0, t0, f0, l0, b0⟩) h 0 _ rfl) 1 _ rfl) 2 _ rfl) 3 _ rfl) 4 _ rfl
theorem below_lay5 {B : Nat} {a w : World} {g : Nat} {kind from' till : Int} {text : ByteArray} {line : Bool} (h : Below B a w) (hg : B ≤ g) :
    Below B a (((((w.setCell ⟨g, 0, none⟩ (.int .i64 kind)).setCell ⟨g, 1, none⟩ (.string text)).setCell ⟨g, 2, none⟩ (.int .i64 from')).setCell ⟨g, 3, none⟩ (.int .i64 till)).setCell ⟨g, 4, none⟩ (.bool line)) :=
  ((((h.setCell (p := ⟨g, 0, none⟩) hg _).setCell (p := ⟨g, 1, none⟩) hg _).setCell (p := ⟨g, 2, none⟩) hg _).setCell (p := ⟨g, 3, none⟩) hg _).setCell (p := ⟨g, 4, none⟩) hg _
theorem run_tk {w : World} {g : Nat} {x : Tk} (h : TkAt w g x) : (loadVar 83 ⟨g, 0, none⟩).run Tryz.prog w = .ok x.val w :=
  run_loadVar_row w g 83 83 x.cells (0, 0) _ h Tryz.underlying83 rfl (by kernel_rfl)
theorem results_tk4 {fn : Func} {p u v z : Tmp} (h : fn.results = #[.cell p 83, .tmp u, .tmp v, .tmp z]) (tmps : Array Value) (w : World) (g : Nat) (x : Tk) (hp : tmps.getD p undef = .pointer (some ⟨g, 0, none⟩)) (hx : TkAt w g x) :
    (results fn tmps).run Tryz.prog w = .ok (.tuple #[x.val, tmps.getD u undef, tmps.getD v undef, tmps.getD z undef]) w := by
  have hp' : tmps[p]?.getD undef = .pointer (some ⟨g, 0, none⟩) := by simpa using hp
  simp [results, h, hp', asAddr, run_tk hx]
/-- the comments met lie in a row of their own, above the call's beginning. -/
def OwnC (B : Nat) (w : World) (v : Value) (cs : List Cm) : Prop := w.ownsRow B 127 4 v cs.length (cmRow cs)
theorem OwnC.mono {B C : Nat} {w : World} {v : Value} {cs : List Cm} (h : OwnC B w v cs) (hc : C ≤ B) : OwnC C w v cs := by
  refine ⟨h.1, ?_⟩
  rcases h.2 with h2 | ⟨g, cap, cur, hv, hg, r⟩
  · exact .inl h2
  · exact .inr ⟨g, cap, cur, hv, Nat.le_trans hc hg, r⟩
/-- what Next answers. -/
def NxPost (s : ByteArray) (w : World) (o : NxO) (e : Ending) (w' : World) : Prop := match o with
  | .fine kind q n line cs => ∃ v, e = .returned (.tuple #[(⟨kind, s.extract q (q + n), q, ((q + n : Nat) : Int), line⟩ : Tk).val, v, .int .i64 0, .int .i64 0]) ∧ OwnC w.heap.size w' v cs ∧ Below w.heap.size w w'
  | .bad place code => e = .returned (.tuple #[Tk.zero.val, .slice none 0 0, .int .i64 place, .int .i64 code]) ∧ Below w.heap.size w w'
theorem tk_new (w : World) : TkAt (w.alloc (.cells Tk.zero.cells 83)) w.heap.size Tk.zero := heap_alloc_new _ _
set_option maxRecDepth 20000 in
set_option maxHeartbeats 1000000 in
/-- a place outside the text. -/
theorem next_place (s : ByteArray) (at' goal : Int) (w : World) (h : at' < 0 ∨ (s.size : Int) < at') :
    Calls Tryz.prog 75 #[.string s, .int .i64 at', .int .i64 goal] w fun e w' => NxPost s w (.bad 0 500) e w' := by
  have hk := tk_new w
  have hb : Below w.heap.size w (w.alloc (.cells Tk.zero.cells 83)) := Below.alloc (Below.refl _ w) (Nat.le_refl _) _
  unfold Tk.zero Tk.cells at hk hb
  simp only at hk hb
  by_cases h0 : at' < 0
  · clear h
    go_enter Tryz.func75, Tryz.ntmps75
    go_upto_region 2 with fail
    generalize w.alloc (.cells #[.int .i64 0, .string ⟨#[]⟩, .int .i64 0, .int .i64 0, .bool false] 83) = w1 at *
    obtain ⟨z0, z1, z2, z3, z4, y0, y1, y2, y3, y4⟩ := TkAt.facts hk
    go_wp2_with fail
    (try simp only [Exit.inBlock, Exit.then])
    refine bodyPost_ret (results_tk4 rfl _ _ _ _ rfl (TkAt.lay hk)) rfl ?_
    exact ⟨rfl, below_lay5 hb (Nat.le_refl _)⟩
  · have h1 : (s.size : Int) < at' := by omega
    clear h
    go_enter Tryz.func75, Tryz.ntmps75
    go_upto_region 2 with fail
    generalize w.alloc (.cells #[.int .i64 0, .string ⟨#[]⟩, .int .i64 0, .int .i64 0, .bool false] 83) = w1 at *
    obtain ⟨z0, z1, z2, z3, z4, y0, y1, y2, y3, y4⟩ := TkAt.facts hk
    go_wp2_with fail
    (try simp only [Exit.inBlock, Exit.then])
    refine bodyPost_ret (results_tk4 rfl _ _ _ _ rfl (TkAt.lay hk)) rfl ?_
    exact ⟨rfl, below_lay5 hb (Nat.le_refl _)⟩
theorem pre125 (s : ByteArray) (p : Nat) (h : p < s.size) : Lib.hasPrefix (s.data.toList.drop p) [125] = (s[p] == 125) := hp1 s p 125 h
set_option maxRecDepth 20000 in
set_option maxHeartbeats 1000000 in
/-- a goal that is none. -/
theorem next_goal (s : ByteArray) (p : Nat) (goal : Int) (w : World) (hp : p ≤ s.size) (h : goal < 1 ∨ 5 < goal ∨ (goal = 3 ∧ ¬ Lib.hasPrefix (s.data.toList.drop p) [125] = true)) :
    Calls Tryz.prog 75 #[.string s, .int .i64 p, .int .i64 goal] w fun e w' => NxPost s w (.bad 0 501) e w' := by
  have hk := tk_new w
  have hb : Below w.heap.size w (w.alloc (.cells Tk.zero.cells 83)) := Below.alloc (Below.refl _ w) (Nat.le_refl _) _
  unfold Tk.zero Tk.cells at hk hb
  simp only at hk hb
  by_cases h0 : goal < 1
  · clear h
    go_enter Tryz.func75, Tryz.ntmps75
    go_upto_region 4 with fail
    generalize w.alloc (.cells #[.int .i64 0, .string ⟨#[]⟩, .int .i64 0, .int .i64 0, .bool false] 83) = w1 at *
    obtain ⟨z0, z1, z2, z3, z4, y0, y1, y2, y3, y4⟩ := TkAt.facts hk
    go_wp2_with fail
    (try simp only [Exit.inBlock, Exit.then])
    refine bodyPost_ret (results_tk4 rfl _ _ _ _ rfl (TkAt.lay hk)) rfl ?_
    exact ⟨rfl, below_lay5 hb (Nat.le_refl _)⟩
  · by_cases h1 : 5 < goal
    · clear h
      go_enter Tryz.func75, Tryz.ntmps75
      go_upto_region 4 with fail
      generalize w.alloc (.cells #[.int .i64 0, .string ⟨#[]⟩, .int .i64 0, .int .i64 0, .bool false] 83) = w1 at *
      obtain ⟨z0, z1, z2, z3, z4, y0, y1, y2, y3, y4⟩ := TkAt.facts hk
      go_wp2_with fail
      (try simp only [Exit.inBlock, Exit.then])
      refine bodyPost_ret (results_tk4 rfl _ _ _ _ rfl (TkAt.lay hk)) rfl ?_
      exact ⟨rfl, below_lay5 hb (Nat.le_refl _)⟩
    · have h2 : goal = 3 ∧ ¬ Lib.hasPrefix (s.data.toList.drop p) [125] = true := by
        rcases h with h | h | h
        · exact absurd h h0
        · exact absurd h h1
        · exact h
      obtain ⟨rfl, h3⟩ := h2
      by_cases hlt : p < s.size
      · rw [pre125 s p hlt] at h3
        have h4 : s[p] ≠ 125 := fun e => h3 (by rw [e]; rfl)
        have b0 : (((p : Nat) : Int) == ((s.size : Nat) : Int)) = false := by rw [beq_eq_false_iff_ne]; omega
        have b1 : (((s[p].toNat : Nat) : Int) != 125) = true := by rw [bne_iff_ne]; exact fun e => h4 (UInt8.toNat.inj (by rw [show s[p].toNat = 125 by omega]; rfl))
        clear h h3 h4
        go_enter Tryz.func75, Tryz.ntmps75
        go_upto_region 4 with fail
        generalize w.alloc (.cells #[.int .i64 0, .string ⟨#[]⟩, .int .i64 0, .int .i64 0, .bool false] 83) = w1 at *
        obtain ⟨z0, z1, z2, z3, z4, y0, y1, y2, y3, y4⟩ := TkAt.facts hk
        go_wp2_with fail
        (try simp only [Exit.inBlock, Exit.then])
        refine bodyPost_ret (results_tk4 rfl _ _ _ _ rfl (TkAt.lay hk)) rfl ?_
        exact ⟨rfl, below_lay5 hb (Nat.le_refl _)⟩
      · have b0 : (((p : Nat) : Int) == ((s.size : Nat) : Int)) = true := by rw [beq_iff_eq]; omega
        clear h h3
        go_enter Tryz.func75, Tryz.ntmps75
        go_upto_region 4 with fail
        generalize w.alloc (.cells #[.int .i64 0, .string ⟨#[]⟩, .int .i64 0, .int .i64 0, .bool false] 83) = w1 at *
        obtain ⟨z0, z1, z2, z3, z4, y0, y1, y2, y3, y4⟩ := TkAt.facts hk
        go_wp2_with fail
        (try simp only [Exit.inBlock, Exit.then])
        refine bodyPost_ret (results_tk4 rfl _ _ _ _ rfl (TkAt.lay hk)) rfl ?_
        exact ⟨rfl, below_lay5 hb (Nat.le_refl _)⟩
end Go.Proofs.YteejjkfmmhegmaaGreatDoor
