/- A range over a function whose iterator keeps memory of its own: a law for the caller whose loop body writes old blocks alone and never leaves early. No condition of size. | The iterator of ast.walk: it hands over a tree's nodes, each with its depth, in preorder. Condition: at most 2^22 nodes. | Contracts of ast.measure, Size, Depth. Condition: at most 2^22 nodes. -/
import Derived.RangeFuncBox
import Derived.RangeFuncNested
import Derived.RangeFuncLeaves
import Derived.Shelf.Abstract
import Derived.WalkKit
import Derived.OwnWalkIn
import Derived.TacticsInMore
import Derived.LoopNIn
import Derived.LoopIn
import Derived.Maps.AppendAt
import Derived.Lib.Hide
import Derived.Test.YteejjkfmmhegmaaGreatDoorMb
import Derived.Deep.LoopGhost
import Derived.Sort.LoopGhostIn
import Derived.Sort.CutIn
import Derived.IntWalk
namespace Go.Proofs.YteejjkfmmhegmaaGreatDoor
open Go.RowKit
variable {F : Fence} {n : Nat} {P : Program}

/-- from block B on all lies as it lay. -/
def Upper (B : Nat) (W W' : World) : Prop := W.heap.size ≤ W'.heap.size ∧ ∀ k, B ≤ k → k < W.heap.size → W'.heap[k]? = W.heap[k]?
theorem Upper.refl (B : Nat) (W : World) : Upper B W W := ⟨Nat.le_refl _, fun _ _ _ => rfl⟩
theorem Upper.trans {B : Nat} {A C D : World} (h : Upper B A C) (k : Upper B C D) : Upper B A D := ⟨Nat.le_trans h.1 k.1, fun i h1 h2 => (k.2 i h1 (Nat.lt_of_lt_of_le h2 h.1)).trans (h.2 i h1 h2)⟩
theorem Upper.mono {B B' : Nat} {A C : World} (h : Upper B A C) (hB : B ≤ B') : Upper B' A C := ⟨h.1, fun i h1 h2 => h.2 i (Nat.le_trans hB h1) h2⟩
theorem Upper.setCell {B : Nat} {A C : World} (h : Upper B A C) {p : Addr} (hp : p.block < B) (v : Value) : Upper B A (C.setCell p v) :=
  ⟨by have := h.1; simpa [World.setCell] using this, fun k h1 h2 => (Below.heap_setCell _ _ _ _ (by omega)).trans (h.2 k h1 h2)⟩
theorem Upper.alloc {B : Nat} {A C : World} (h : Upper B A C) (o : Obj) : Upper B A (C.alloc o) :=
  ⟨by rw [World.size_alloc]; have := h.1; omega, fun k h1 h2 => (Below.heap_alloc C o k (Nat.lt_of_lt_of_le h2 h.1)).trans (h.2 k h1 h2)⟩
/-- what the iterator owes: it hands over at most N values, one by one, in the end such as Fin says; it writes no block that was there when it was called; T: what it reads. -/
def SeqOwn {α : Type} (F : Fence) (n : Nat) (P : Program) (g : Nat) (lb : Array Value) (encs : α → Array Value) (T : World → Prop) (N : Nat) (Fin : List α → Prop) (w : World) : Prop :=
  ∀ (l : Nat) (J : List α → World → Prop) (W : World), Below w.heap.size w W → (∀ s A B, J s A → Below W.heap.size A B → J s B) → (∀ s A, J s A → T A) →
    (∀ pre x W1, J pre W1 → pre.length < N → W.heap.size ≤ W1.heap.size → YieldAt F (n - 1) P l (encs x) W1 fun e W' => e = .returned (.bool true) ∧ J (pre ++ [x]) W' ∧ Upper W.heap.size W1 W') →
    J [] W → CallsIn F n P g (#[.func (.yield l) #[] #[]] ++ lb) W fun e W' => (∃ v, e = .returned v) ∧ ∃ xs, Fin xs ∧ J xs W'
/-- how a round may end. -/
def ownEnd {α : Type} (B : Nat) (I : List α → World → Prop) (xs : List α) (W : World) : Exit → Act → World → Prop
  | .normal, _, W' => Upper B W W' ∧ I xs W'
  | _, _, _ => False
theorem below_put (W : World) (l : Nat) (o : Obj) (B : Nat) (h : B ≤ l) : Below B W (W.putObj l o) :=
  ⟨rfl, rfl, rfl, by simp, fun k hk => World.putObj_heap_other (by omega)⟩
theorem upper_put (W : World) (l : Nat) (o : Obj) (B : Nat) (h : l < B) : Upper B W (W.putObj l o) := ⟨by simp, fun k h1 _ => World.putObj_heap_other (by omega)⟩
theorem wpIn_rangeFunc_own' {α : Type} {g : Operand} {ps : Array Tmp} {assign body : Code} {Q : Exit → Act → World → Prop} {a : Act} {w : World}
    (hro : F.round = none) (h1 : 1 ≤ n) {gf : Nat} {lb : Array Value} (hg : a.eval g = .func (.func gf) #[] lb) (hFg : F.fn gf) (eg : ∀ args w, (callFunc gf args).run P w = .ok (.enter gf args) w)
    {encs : α → Array Value} {T : World → Prop} {N : Nat} {Fin : List α → Prop} (hseq : SeqOwn F (n - 1) P gf lb encs T N Fin w) (hps : ∀ x, (encs x).size = ps.size)
    (I : List α → World → Prop) (hIa : ∀ s A B, I s A → Below w.heap.size A B → I s B) (hIT : ∀ s A, I s A → T A) (h0 : I [] w) (a₁ : α → Act)
    (hassign : ∀ (l : Nat) (x : α) (W : World) (K : Act → World → Prop), K (a₁ x) W →
      assign.wpIn (F.inRound l) (n - 1 - 1) P (Exit.then K (fun _ _ _ => False)) { tmps := (ps.zip (encs x)).foldl (fun t (p, v) => t.setIfInBounds p v) a.tmps, defers := [] } W)
    (hbody : ∀ (l : Nat) (pre : List α) (x : α) (W : World), I pre W → pre.length < N → w.heap.size ≤ W.heap.size → body.wpIn (F.inRound l) (n - 1 - 1) P (ownEnd w.heap.size I (pre ++ [x]) W) (a₁ x) W)
    (hdone : ∀ (D : Nat) (W : World) (xs : List α), w.heap.size ≤ D → Fin xs → I xs W → W.heap[D]? = some (.deferred (some [])) → Q .normal { a with defers := { target := .collected D, args := #[] } :: a.defers } W) :
    (Code.rangeFunc g ps assign body).wpIn F n P Q a w := by
  refine wpIn_rangeFunc fun fn hfn => ?_
  rw [hro]
  let rec' : LoopState → Loop := fun st => { state := st, pending := none, fn := fn, tmps := a.tmps, params := ps, assign := assign, body := body, defers := w.heap.size }
  let W1 : World := (w.alloc (.deferred (some []))).alloc (.loop (rec' .ready))
  have hs1 : W1.heap.size = w.heap.size + 2 := by show ((w.alloc _).alloc _).heap.size = _; rw [World.size_alloc, World.size_alloc]
  have hL1 : W1.heap[w.heap.size + 1]? = some (.loop (rec' .ready)) := by
    have := World.alloc_heap_new (w.alloc (.deferred (some []))) (.loop (rec' .ready))
    rwa [World.size_alloc] at this
  have hK1 : W1.heap[w.heap.size]? = some (.deferred (some [])) := (Below.heap_alloc _ _ _ (by simp)).trans (World.alloc_heap_new w _)
  have hB1 : Below w.heap.size w W1 := ((Below.refl _ w).alloc (Nat.le_refl _) _).alloc (by simp) _
  refine ⟨w.heap.size + 1, [{ target := .collected w.heap.size, args := #[] }], W1, { target := .fn (.func gf) lb, args := #[.func (.yield (w.heap.size + 1)) #[] #[]] }, W1, gf,
    #[.func (.yield (w.heap.size + 1)) #[] #[]] ++ lb, W1, run_enterLoop_outer _ _ _ _ _, ?_, ?_, ?_, fun _ => h1, ?_⟩
  · simp only [resolve, hg]
    simp [go_sem]
  · intro f' hf'; simp [Target.leads] at hf'; subst hf'; exact hFg
  · simp [invoke, go_sem, eg]
  refine (hseq (w.heap.size + 1)
    (fun pre W => I pre W ∧ W.heap[w.heap.size + 1]? = some (.loop (rec' .ready)) ∧ W.heap[w.heap.size]? = some (.deferred (some [])))
    W1 hB1 ?_ ?_ ?_ ⟨hIa _ _ _ h0 hB1, hL1, hK1⟩).mono ?_
  · rintro s A B ⟨hi, hl, hk⟩ hb
    rw [hs1] at hb
    exact ⟨hIa _ _ _ hi (hb.mono (by omega)), (hb.block _ (by omega)).trans hl, (hb.block _ (by omega)).trans hk⟩
  · rintro s A ⟨hi, _, _⟩
    exact hIT _ _ hi
  · rintro pre x W ⟨hi, hl, hk⟩ hlen hsz
    have hlt : w.heap.size + 1 < W.heap.size := (Array.getElem?_eq_some_iff.1 hl).1
    refine ⟨fn, _, assign, body, run_yield (P := P) (args := encs x) hl (hps x), roundIn_of_wpIn hfn (hassign _ x W _ ⟨_, run_beginRound hl rfl, ?_⟩)⟩
    have hl2 : (W.putObj (w.heap.size + 1) (.loop (rec' .busy))).heap[w.heap.size + 1]? = some (.loop (rec' .busy)) := World.putObj_heap_same hlt
    have hk2 : (W.putObj (w.heap.size + 1) (.loop (rec' .busy))).heap[w.heap.size]? = some (.deferred (some [])) := (World.putObj_heap_other (by omega)).trans hk
    have hz2 : (W.putObj (w.heap.size + 1) (.loop (rec' .busy))).heap.size = W.heap.size := by simp
    refine wpIn_mono (hbody _ pre x _ (hIa _ _ _ hi (below_put _ _ _ _ (by omega))) hlen (by rw [hz2]; omega)) ?_
    rintro e a3 W3 hp
    cases e with
    | normal =>
      obtain ⟨hk3, hi3⟩ := hp
      have hl3 := (hk3.2 _ (by omega) (by rw [hz2]; omega)).trans hl2
      have hd3 := (hk3.2 _ (by omega) (by rw [hz2]; omega)).trans hk2
      have hlt3 := (Array.getElem?_eq_some_iff.1 hl3).1
      refine ⟨_, _, run_endRound (P := P) none hl3, rfl, ⟨hIa _ _ _ hi3 (below_put _ _ _ _ (by omega)), World.putObj_heap_same hlt3, (World.putObj_heap_other (by omega)).trans hd3⟩, ?_⟩
      refine ((upper_put W _ (.loop (rec' .busy)) _ (by omega)).trans (hk3.mono (by omega))).trans (upper_put W3 _ _ _ (by omega))
    | ret => exact hp.elim
    | exit id => exact hp.elim
    | goto t => exact hp.elim
    | panic ch => exact hp.elim
    | outgrown => exact hp.elim
  · rintro e W2 ⟨⟨v, rfl⟩, xs, hfin, hi, hl, hk⟩
    exact ⟨none, _, run_endLoop (P := P) hl (by simp [rec']), hdone _ _ xs (Nat.le_refl _) hfin (hIa _ _ _ hi (below_put _ _ _ _ (by omega))) ((World.putObj_heap_other (by omega)).trans hk)⟩
end Go.Proofs.YteejjkfmmhegmaaGreatDoor
namespace Go.Proofs.YteejjkfmmhegmaaGreatDoor
open Go.RowKit

/-- a place that is left: depth, address, tree. -/
abbrev Pl := Nat × Addr × Nd
/-- its two cells. -/
def plCells : List Pl → List Value
  | [] => []
  | p :: ps => plCells ps ++ [.int .i64 p.1, .pointer (some p.2.1)]
theorem plCells_len : ∀ ps : List Pl, (plCells ps).length = ps.length * 2
  | [] => rfl
  | p :: ps => by rw [plCells, List.length_append, plCells_len ps]; simp; omega
theorem plCells_one : ∀ (ps : List Pl), ∀ u ∈ plCells ps, u.oneCell' = true
  | [], u, h => by simp [plCells] at h
  | p :: ps, u, h => by
    rw [plCells] at h
    rcases List.mem_append.1 h with h | h
    · exact plCells_one ps u h
    · simp only [List.mem_cons, List.not_mem_nil, or_false] at h
      rcases h with rfl | rfl <;> rfl
/-- where kid j lies. -/
def kidAddr (b : Option Addr) (j : Nat) : Addr := match b with
  | some a => ⟨a.block, a.off + j * 5, none⟩
  | none => ⟨0, 0, none⟩
/-- a node's kids from j on, as places. -/
def kidPl (d : Nat) (b : Option Addr) : List Nd → Nat → List Pl
  | [], _ => []
  | k :: ks, j => (d, kidAddr b j, k) :: kidPl d b ks (j + 1)
theorem kidPl_len (d : Nat) (b : Option Addr) : ∀ (ks : List Nd) (j : Nat), (kidPl d b ks j).length = ks.length
  | [], _ => rfl
  | k :: ks, j => by rw [kidPl, List.length_cons, kidPl_len d b ks (j + 1), List.length_cons]
/-- the depths that are still to come. -/
def plD : List Pl → List Nat
  | [] => []
  | p :: ps => preD p.1 p.2.2 ++ plD ps
/-- how many nodes are still to come. -/
def plN : List Pl → Nat
  | [] => 0
  | p :: ps => ndSize p.2.2 + plN ps
theorem plD_append : ∀ (a b : List Pl), plD (a ++ b) = plD a ++ plD b
  | [], _ => rfl
  | p :: ps, b => by rw [List.cons_append, plD, plD, plD_append ps b, List.append_assoc]
theorem plN_append : ∀ (a b : List Pl), plN (a ++ b) = plN a + plN b
  | [], _ => by rw [List.nil_append, plN, Nat.zero_add]
  | p :: ps, b => by rw [List.cons_append, plN, plN, plN_append ps b]; omega
theorem plD_kids (d : Nat) (b : Option Addr) : ∀ (ks : List Nd) (j : Nat), plD (kidPl d b ks j) = preDs d ks
  | [], _ => by rw [kidPl, plD, preDs]
  | k :: ks, j => by rw [kidPl, plD, preDs, plD_kids d b ks]
theorem plN_kids (d : Nat) (b : Option Addr) : ∀ (ks : List Nd) (j : Nat), plN (kidPl d b ks j) = ndSizes ks
  | [], _ => by rw [kidPl, plN, ndSizes]
  | k :: ks, j => by rw [kidPl, plN, ndSizes, plN_kids d b ks]
theorem kidPl_drop (d : Nat) (b : Option Addr) (ks : List Nd) (i : Nat) (h : i < ks.length) : kidPl d b (ks.drop i) i = (d, kidAddr b i, ks[i]) :: kidPl d b (ks.drop (i + 1)) (i + 1) := by
  rw [List.drop_eq_getElem_cons h, kidPl]
theorem len_le : ∀ ps : List Pl, ps.length ≤ plN ps
  | [] => Nat.le_refl _
  | p :: ps => by
    rw [plN, List.length_cons, ndSize_eq]
    have := len_le ps
    omega
/-- the places lie as they should. -/
def PlOk (w : World) (L B : Nat) (ps : List Pl) : Prop := ∀ p ∈ ps, ∃ g o, p.2.1 = ⟨g, o, none⟩ ∧ NdC w L B p.2.2 g o
theorem PlOk.kids {w : World} {L B d : Nat} {n : Nd} {b : Option Addr} (h : RowP w L B n.kids b 0) (i : Nat) : PlOk w L B (kidPl d b (n.kids.drop i) i) := by
  have key : ∀ (m i : Nat), n.kids.length - i = m → PlOk w L B (kidPl d b (n.kids.drop i) i) := by
    intro m
    induction m with
    | zero =>
      intro i hm
      rw [List.drop_eq_nil_of_le (by omega), kidPl]
      intro p hp
      cases hp
    | succ m ih =>
      intro i hm
      have hi : i < n.kids.length := by omega
      rw [kidPl_drop d b n.kids i hi]
      intro p hp
      rcases List.mem_cons.1 hp with rfl | hp
      · obtain ⟨g, off, rfl, hn⟩ := RowP_get h i hi
        rw [Nat.zero_add] at hn
        exact ⟨g, off + i * 5, rfl, hn⟩
      · exact ih (i + 1) (by omega) p hp
  exact key _ i rfl
/-- one place less. -/
theorem ownsRow_pop {w : World} {base : Nat} {e : TypeId} {g n cap : Nat} {xs ys : List Value} {size : Nat} (h : w.ownsRow base e size (.slice (some ⟨g, 0, none⟩) (n + 1) cap) (n + 1) (xs ++ ys)) (hx : xs.length = n * size) : w.ownsRow base e size (.slice (some ⟨g, 0, none⟩) n cap) n xs := by
  refine ⟨hx, .inr ?_⟩
  rcases h.2 with ⟨hv, _⟩ | ⟨g', cap', cur, hv, hg, hc, hn, hm, hs, ht⟩
  · cases hv
  · simp only [Value.slice.injEq, Option.some.injEq, Addr.mk.injEq, true_and, and_true] at hv
    obtain ⟨rfl, rfl⟩ := hv
    refine ⟨g, cap, cur, rfl, hg, hc, by omega, hm, hs, ?_⟩
    have := congrArg (List.take (n * size)) ht
    rw [List.take_take, List.take_left' hx, Nat.min_eq_left (Nat.mul_le_mul_right _ (by omega))] at this
    exact this
theorem ownsRow_some {w : World} {base : Nat} {e : TypeId} {v : Value} {n size : Nat} {xs : List Value} (h : w.ownsRow base e size v n xs) (hn : 0 < n) : ∃ g cap, v = .slice (some ⟨g, 0, none⟩) n cap ∧ base ≤ g ∧ g < w.heap.size ∧ n ≤ cap := by
  rcases h.2 with ⟨_, h0⟩ | ⟨g, cap, cur, rfl, hg, hc, hk, _⟩
  · omega
  · exact ⟨g, cap, rfl, hg, (Array.getElem?_eq_some_iff.1 hc).1, hk⟩
theorem ownsRow_len {w : World} {base : Nat} {e : TypeId} {v : Value} {n size : Nat} {xs : List Value} (h : w.ownsRow base e size v n xs) : ∃ b cap, v = .slice b n cap := by
  rcases h.2 with ⟨rfl, rfl⟩ | ⟨g, cap, cur, rfl, _⟩
  · exact ⟨none, 0, rfl⟩
  · exact ⟨_, cap, rfl⟩
theorem infoPl : (Tryz.prog.info? 55).map (fun i => (i.zero, i.size, i.bytes)) = some (some (.agg #[.int .i64 0, .pointer none]), 2, 16) := by kernel_rfl
theorem ownsRow_upper {W A B : World} {base : Nat} {e : TypeId} {v : Value} {n size : Nat} {xs : List Value} (h : A.ownsRow base e size v n xs) (hb : base = W.heap.size) (hu : Upper W.heap.size A B) : B.ownsRow base e size v n xs := by
  refine ⟨h.1, ?_⟩
  rcases h.2 with h2 | ⟨g, cap, cur, hv, hg, hc, rest⟩
  · exact .inl h2
  · exact .inr ⟨g, cap, cur, hv, hg, (hu.2 g (by omega) (Array.getElem?_eq_some_iff.1 hc).1).trans hc, rest⟩
/-- between two rounds: what was handed over, what is left. -/
structure WkS (w W : World) (L B : Nat) (n : Nd) (J : List (Nat × Addr) → World → Prop) (pre : List (Nat × Addr)) (st : List Pl) (v : Value) (wr : World) : Prop where
  deps : pre.map Prod.fst ++ plD st = preD 1 n
  many : pre.length + plN st = ndSize n
  ok : PlOk w L B st
  dep : ∀ p ∈ st, p.1 + ndSize p.2.2 ≤ 4194305
  row : wr.ownsRow W.heap.size 55 2 v st.length (plCells st)
  inv : J pre wr
  size : W.heap.size ≤ wr.heap.size
theorem PlOk.head {w : World} {L B : Nat} {p : Pl} {ps : List Pl} (h : PlOk w L B (p :: ps)) : (∃ g o, p.2.1 = ⟨g, o, none⟩ ∧ NdC w L B p.2.2 g o) ∧ PlOk w L B ps := ⟨h p (.head _), fun q hq => h q (.tail _ hq)⟩
theorem PlOk.append {w : World} {L B : Nat} {ps qs : List Pl} (h : PlOk w L B ps) (k : PlOk w L B qs) : PlOk w L B (ps ++ qs) := fun p hp => by
  rcases List.mem_append.1 hp with hp | hp
  · exact h p hp
  · exact k p hp
theorem PlOk.one {w : World} {L B d g o : Nat} {n : Nd} (h : NdC w L B n g o) : PlOk w L B [(d, ⟨g, o, none⟩, n)] := fun p hp => by
  rcases List.mem_cons.1 hp with rfl | hp
  · exact ⟨g, o, rfl, h⟩
  · cases hp
/-- pushing a node's kids: those from j on are pushed. -/
structure WkI (w W : World) (L B : Nat) (d xq ga oa : Nat) (t : Nd) (b : Option Addr) (rest : List Pl) (J : List (Nat × Addr) → World → Prop) (pre : List (Nat × Addr)) (cap2 j : Nat) (v : Value) (wr : World) : Prop where
  row : wr.ownsRow W.heap.size 55 2 v (kidPl (d + 1) b (t.kids.drop j) j ++ rest).length (plCells (kidPl (d + 1) b (t.kids.drop j) j ++ rest))
  box : wr.heap[xq]? = some (.cells #[.int .i64 d, .pointer (some ⟨ga, oa, none⟩)] 55 (0, 0))
  inv : J pre wr
  size : W.heap.size ≤ wr.heap.size
  cell : wr.cell? ⟨ga, oa + 2, none⟩ = some (.slice b t.kids.length cap2)
  far : v.ownBlock ≠ some xq
theorem kidPl_mem {d : Nat} {b : Option Addr} {p : Pl} : ∀ {ks : List Nd} {j : Nat}, p ∈ kidPl d b ks j → ∃ x ∈ ks, p.1 = d ∧ p.2.2 = x
  | [], _, h => by cases h
  | k :: ks, j, h => by
    rw [kidPl] at h
    rcases List.mem_cons.1 h with rfl | h
    · exact ⟨k, .head _, rfl, rfl⟩
    · obtain ⟨x, hx, e⟩ := kidPl_mem h
      exact ⟨x, .tail _ hx, e⟩
theorem two_one (d : Int) (a : Option Addr) : ∀ y ∈ ([.int .i64 d, .pointer a] : List Value), y.oneCell' = true := by
  intro y hy
  simp only [List.mem_cons, List.not_mem_nil, or_false] at hy
  rcases hy with rfl | rfl <;> rfl
/-- an append leaves older blocks alone. -/
theorem push_old {w2 w3 : World} {o : Obj} {v : Value} {base n size i : Nat} {e : TypeId} {ys : List Value} (hg : (w2.alloc o).grownBy w3 v.ownBlock) (ho : w2.ownsRow base e size v n ys) (hi : i < base) (hb : base ≤ w2.heap.size) : w3.heap[i]? = w2.heap[i]? := by
  refine (hg.block i (by rw [World.size_alloc]; omega) (fun e => ?_)).trans (Below.heap_alloc _ _ _ (by omega))
  have := (ho.lt i e.symm).1
  omega
theorem push_below {w2 w3 : World} {o : Obj} {v : Value} {base n size : Nat} {e : TypeId} {ys : List Value} (hg : (w2.alloc o).grownBy w3 v.ownBlock) (ho : w2.ownsRow base e size v n ys) (hb : base ≤ w2.heap.size) : Below base w2 w3 := by
  refine ((Below.refl base w2).alloc hb o).grown hg (by rw [World.size_alloc]; omega) (fun i e => ?_)
  exact (ho.lt i e).1
/-- an append leaves another block alone. -/
theorem push_out {w2 w3 : World} {o : Obj} {v : Value} {i : Nat} (hg : (w2.alloc o).grownBy w3 v.ownBlock) (hi : i < w2.heap.size) (hne : v.ownBlock ≠ some i) : w3.heap[i]? = w2.heap[i]? :=
  (hg.block i (by rw [World.size_alloc]; omega) (fun e => hne e.symm)).trans (Below.heap_alloc _ _ _ hi)
attribute [local go_sem] Oper.semAt_some
set_option maxRecDepth 100000 in
set_option maxHeartbeats 4000000 in
theorem walk_seq (n : Nd) (m : Nat) (hm : 1 ≤ m) (g o L B bn : Nat) (w : World) (hbox : w.heap[bn]? = some (.cells #[.pointer (some ⟨g, o, none⟩)] 30 (0, 0))) (hn : NdC w L B n g o) (hB : B ≤ w.heap.size) (hsz : ndSize n ≤ 4194304) :
    SeqOwn Fence.wide m Tryz.prog 37 #[.pointer (some ⟨bn, 0, none⟩)] (fun x : Nat × Addr => #[.int .i64 x.1, .pointer (some x.2)]) (fun A => ∀ k, L ≤ k → k < B → A.heap[k]? = w.heap[k]?) (ndSize n) (fun xs => xs.map Prod.fst = preD 1 n) w := by
  intro l J W hW hJa hT hY h0
  have hbW : W.heap[bn]? = some (.cells #[.pointer (some ⟨g, o, none⟩)] 30 (0, 0)) := (hW.block bn (Array.getElem?_eq_some_iff.1 hbox).1).trans hbox
  refine callsIn_of_wp Tryz.func37 rfl trivial ?_ rfl
  simp only [Tryz.ntmps37, List.size_toArray, List.length_cons, List.length_nil, Nat.reduceAdd, Nat.reduceSub, Array.replicate_succ, Array.replicate_zero, List.push_toArray, List.append_toArray, List.nil_append, List.cons_append]
  have HJa := Lib.hid hJa
  have HT := Lib.hid hT
  have HY := Lib.hid hY
  have hc := cell_of_row W bn 0 _ _ _ hbW
  have HST := Lib.hid (show WkS w W L B n J [] [(1, ⟨g, o, none⟩, n)] (.slice (some ⟨W.heap.size, 0, none⟩) 1 1) (W.alloc (.cells #[.int .i64 1, .pointer (some ⟨g, o, none⟩)] 55)) from
    ⟨by rw [List.map_nil, List.nil_append, plD, plD, List.append_nil], by rw [plN, plN]; simp, PlOk.one hn, (fun p hp => by
      rcases List.mem_cons.1 hp with rfl | hp
      · show 1 + ndSize n ≤ _; omega
      · cases hp), World.ownsRow_lit W #[.int .i64 1, .pointer (some ⟨g, o, none⟩)] 1 (Nat.le_refl _) (by decide) rfl, hJa _ _ _ h0 (Below.alloc (Below.refl _ _) (Nat.le_refl _) _), by rw [World.size_alloc]; omega⟩)
  have hwW := hW.size
  clear hJa hT hY hW hbW h0 hn
  obtain ⟨i0, hi, hz0, hz1, hz2⟩ := info_parts infoPl
  gi_wp2_with fail
  gi_loopg [3] (ndSize n) (fun s v wr => ∃ (pre : List (Nat × Addr)) (st : List Pl), s = plN st ∧ WkS w W L B n J pre st v wr)
  case atStart => exact ⟨[], _, by rw [plN, plN, Nat.add_zero], HST.out⟩
  case round =>
    clear HST
    obtain ⟨pre, st, hs, hst⟩ := hrel
    have HS := Lib.hid hs
    clear hs
    cases st with
    | nil =>
      have HST := Lib.hid hst
      obtain ⟨b, cap, rfl⟩ := ownsRow_len hst.row
      clear hst
      gi_wp2_with fail
      go_end0
      exact ⟨⟨_, rfl⟩, pre, by have := HST.out.deps; rw [plD, List.append_nil] at this; exact this, HST.out.inv⟩
    | cons x rest =>
      obtain ⟨d, a, t⟩ := x
      obtain ⟨g1, cap1, rfl, hg1, hg1w, hn1⟩ := ownsRow_some hst.row (Nat.succ_pos _)
      obtain ⟨⟨ga, oa, ha, hna⟩, hok⟩ := hst.ok.head
      simp only at ha hna
      subst ha
      have c0 : wr.cell? ⟨g1, rest.length * 2, none⟩ = some (.int .i64 d) := by
        rw [hst.row.cellAt (rest.length * 2) (by simp), plCells, List.getElem?_append_right (by rw [plCells_len]; exact Nat.le_refl _), plCells_len, Nat.sub_self]; rfl
      have c1 : wr.cell? ⟨g1, rest.length * 2 + 1, none⟩ = some (.pointer (some ⟨ga, oa, none⟩)) := by
        rw [hst.row.cellAt (rest.length * 2 + 1) (by simp; omega), plCells, List.getElem?_append_right (by rw [plCells_len]; omega), plCells_len, Nat.add_sub_cancel_left]; rfl
      have HROW := Lib.hid (ownsRow_pop hst.row (plCells_len rest))
      have HST := Lib.hid hst
      have HNA := Lib.hid hna
      have HOK := Lib.hid hok
      have hpl : pre.length < ndSize n := by have := hst.many; rw [plN, ndSize_eq] at this; omega
      have hrl : rest.length ≤ 4194304 := by have := hst.many; have := len_le rest; rw [plN] at *; omega
      have hdl : d + ndSize t ≤ 4194305 := hst.dep _ (.head _)
      have htc := kid_count t
      have hj1 := HJa.out _ _ _ hst.inv (Below.alloc (Below.refl _ wr) hst.size (.cells #[.int .i64 d, .pointer (some ⟨ga, oa, none⟩)] 55))
      obtain ⟨fn, tmps, assign, body, hy, hR⟩ := HY.out pre (d, ⟨ga, oa, none⟩) (wr.alloc (.cells #[.int .i64 d, .pointer (some ⟨ga, oa, none⟩)] 55)) hj1 hpl (by rw [World.size_alloc]; have := hst.size; omega)
      have HXB := Lib.hid (heap_alloc_new wr (.cells #[.int .i64 d, .pointer (some ⟨ga, oa, none⟩)] 55))
      have hws := hst.size
      simp only [List.length_cons] at hn1 ⊢
      clear hst hna hok hj1
      gi_wp2_with fail
      refine hR.mono ?_
      rintro e W' ⟨rfl, hJ', hk⟩
      have hxb : W'.heap[wr.heap.size]? = some (.cells #[.int .i64 d, .pointer (some ⟨ga, oa, none⟩)] 55 (0, 0)) := (hk.2 _ hws (by rw [World.size_alloc]; omega)).trans HXB.out
      have hrow : W'.ownsRow W.heap.size 55 2 (.slice (some ⟨g1, 0, none⟩) rest.length cap1) rest.length (plCells rest) := ownsRow_upper (HROW.out.alloc _) rfl hk
      have hWW : W.heap.size ≤ W'.heap.size := by have := hk.1; rw [World.size_alloc] at this; omega
      have hna2 := NdC_keep (Nat.le_refl _) (Nat.le_refl _) (HT.out _ _ hJ') _ _ _ HNA.out
      rw [NdC_eq] at hna2
      obtain ⟨b2, cap2, _, hgaB, _, _, k2, _, _, hcap2, hrow2⟩ := hna2
      have hxl := (Array.getElem?_eq_some_iff.1 hxb).1
      have x0 := cell_of_row W' wr.heap.size 0 _ _ _ hxb
      have x1 := cell_of_row W' wr.heap.size 1 _ _ _ hxb
      have HIN := Lib.hid (show WkI w W L B d wr.heap.size ga oa t b2 rest J (pre ++ [(d, ⟨ga, oa, none⟩)]) cap2 t.kids.length (.slice (some ⟨g1, 0, none⟩) rest.length cap1) W' from
        ⟨by rw [List.drop_length, kidPl, List.nil_append]; exact hrow, hxb, hJ', hWW, k2, fun e => by
          have e2 : g1 = wr.heap.size := by simpa [Value.ownBlock] using e
          omega⟩)
      have HPK := Lib.hid (fun i => PlOk.kids (d := d + 1) (RowP_keep (w' := w) (Nat.le_refl _) (Nat.le_refl _) (fun k h1 h2 => (HT.out _ _ hJ' k h1 h2).symm) hrow2) i)
      have hgaW : ga < W.heap.size := by omega
      have HRB := Lib.hid (show ∀ i, i < t.kids.length → ∃ g off, b2 = some ⟨g, off, none⟩ from fun i hi => by obtain ⟨g, off, e, _⟩ := RowP_get hrow2 i hi; exact ⟨g, off, e⟩)
      generalize hxq : wr.heap.size = xq at *
      have hxqW : W.heap.size ≤ xq := hws
      have HWS := Lib.hid hws
      clear hy hR hk hxb hrow hrow2 hJ' c0 c1 hxq hws
      gi_wp2_with fail
      clear x0 x1 k2
      gi_loopw [3, 5] (fun v i wr => ∃ j : Nat, j ≤ t.kids.length ∧ i = .int .i64 ((j : Int) - 1) ∧ WkI w W L B d xq ga oa t b2 rest J (pre ++ [(d, ⟨ga, oa, none⟩)]) cap2 j v wr) (fun _ i _ => (intOf i + 1).toNat)
      case atStart => exact ⟨t.kids.length, Nat.le_refl _, rfl, HIN.out⟩
      case round =>
        clear HIN
        obtain ⟨j, hj, rfl, hin⟩ := hrel
        have HIN := Lib.hid hin
        have hxl2 := (Array.getElem?_eq_some_iff.1 hin.box).1
        have x0 := cell_of_row _ xq 0 _ _ _ hin.box
        have x1 := cell_of_row _ xq 1 _ _ _ hin.box
        have k2 := hin.cell
        cases j with
        | zero =>
          have e0 : (((0 : Nat) : Int) - 1) = -1 := rfl
          rw [e0]
          clear e0
          gi_wp2_with fail
          gi_roundg (plN (kidPl (d + 1) b2 t.kids 0 ++ rest))
          case measure => rw [HS.out, plN_append, plN_kids]; show _ < ndSize t + plN rest; have := ndSize_eq t; omega
          case rel =>
            refine ⟨pre ++ [(d, ⟨ga, oa, none⟩)], kidPl (d + 1) b2 t.kids 0 ++ rest, rfl, ?_, ?_, (HPK.out 0).append HOK.out, ?_, HIN.out.row, HIN.out.inv, HIN.out.size⟩
            · have := HST.out.deps
              rw [plD, preD_eq] at this
              rw [List.map_append, plD_append, plD_kids, ← this]
              simp
            · have := HST.out.many
              have e1 : plN ((d, ⟨ga, oa, none⟩, t) :: rest) = ndSize t + plN rest := rfl
              have e2 := ndSize_eq t
              rw [List.length_append, plN_append, plN_kids, List.length_singleton]
              omega
            · intro p hp
              rcases List.mem_append.1 hp with hp | hp
              · obtain ⟨x, hx, e1, e2⟩ := kidPl_mem hp
                have := ndSizes_mem hx
                rw [e1, e2]
                rw [ndSize_eq t] at hdl
                omega
              · exact HST.out.dep p (.tail _ hp)
        | succ i =>
          have e0 : (((i + 1 : Nat) : Int) - 1) = i := by omega
          rw [e0]
          clear e0
          obtain ⟨gk2, offk, rfl⟩ := HRB.out i (by omega)
          have HKD := Lib.hid (kidPl_drop (d + 1) (some ⟨gk2, offk, none⟩) t.kids i (by omega))
          generalize hSd : kidPl (d + 1) (some ⟨gk2, offk, none⟩) (t.kids.drop (i + 1)) (i + 1) ++ rest = S at *
          have hSl : S.length ≤ 8388608 := by rw [← hSd, List.length_append, kidPl_len, List.length_drop]; omega
          have HSD := Lib.hid hSd
          have HOWN := Lib.hid (show wr.ownsRow W.heap.size 55 2 _ S.length (plCells S) by rw [← hSd]; exact hin.row)
          have hww := hin.size
          have hxo := hin.far
          clear hin hSd
          have hil : i < t.kids.length := by omega
          gi_upto_region 8 with fail
          have hwd : IntKind.i64.wrap ((d : Int) + 1) = (d : Int) + 1 := IntWalk.i64_in _ (by omega)
          refine wpIn_wide.2 ?_
          go_region_law (refine step_append_lies _ (by rfl) _ _ _ (by rfl) W.heap.size 55 i0 _ 2 16 (by kernel_rfl) hi hz0 hz1 hz2 (by rfl) (by decide) _ S.length (plCells S) (by rfl) (HOWN.out.alloc _) ⟨wr.heap.size, 0, none⟩ 1 1 [.int .i64 ((d : Int) + 1), .pointer (some ⟨gk2, offk + i * 5, none⟩)] (by rfl) (by rfl) (World.news_of_block (heap_alloc_new _ _)) (two_one _ _) (by decide) (by unfold maxLen; omega) (by omega) (by simp <;> omega) (wr.heap.size + 1) (by simp) ?_; intro g3 cap3 w3 hown3 hgrow4 hat3 hlt3; have hgrow3 : (wr.alloc _).grownBy w3 _ := ⟨hgrow4.os, hgrow4.tape, hgrow4.output, hgrow4.size, hgrow4.block⟩; clear hgrow4; have hxf := push_out hgrow3 hxl2 hxo; have z0 := (World.cell?_of_block (a := ⟨xq, 0, none⟩) hxf).trans x0; have z1 := (World.cell?_of_block (a := ⟨xq, 1, none⟩) hxf).trans x1; have hxl3 : xq < w3.heap.size := (Array.getElem?_eq_some_iff.1 (hxf.trans HIN.out.box)).1; have hga3 := push_old hgrow3 HOWN.out hgaW hww; have z2 := (World.cell?_of_block (a := ⟨ga, oa + 2, none⟩) hga3).trans k2; have hgal3 : ga < w3.heap.size := (by omega))
          all_goals
            have HST3 := Lib.hid (show WkI w W L B d xq ga oa t (some ⟨gk2, offk, none⟩) rest J (pre ++ [(d, ⟨ga, oa, none⟩)]) cap2 i (.slice (some ⟨g3, 0, none⟩) (S.length + 1) cap3) w3 from
              ⟨by rw [HKD.out, List.cons_append, HSD.out, List.length_cons, plCells]; exact hown3, hxf.trans HIN.out.box, HJa.out _ _ _ HIN.out.inv (push_below hgrow3 HOWN.out hww), by omega, z2, by
                intro e
                have e2 : g3 = xq := by simpa [Value.ownBlock] using e
                subst e2
                rcases hat3 with h | h
                · exact hxo h
                · omega⟩)
            clear hown3 hgrow3 hat3 hxf hga3 hwd
            gi_wp2_with fail
            go_roundw
            case rel => exact ⟨i, by omega, by go_num, HST3.out⟩
            case measure => simp [intOf]
end Go.Proofs.YteejjkfmmhegmaaGreatDoor
namespace Go.Proofs.YteejjkfmmhegmaaGreatDoor
open Go.RowKit

/-- a number in a block of its own. -/
def IntBox (w : World) (p : Nat) (t : TypeId) (z : Int) : Prop := w.heap[p]? = some (.cells #[.int .i64 z] t (0, 0))
theorem IntBox.lt {w : World} {p : Nat} {t : TypeId} {z : Int} (h : IntBox w p t z) : p < w.heap.size := (Array.getElem?_eq_some_iff.1 h).1
theorem IntBox.facts {w : World} {p : Nat} {t : TypeId} {z : Int} (h : IntBox w p t z) : w.cell? ⟨p, 0, none⟩ = some (.int .i64 z) ∧ w.frozen? ⟨p, 0, none⟩ = false := ⟨cell_of_row w p 0 _ _ _ h, frozen_of_row w p 0 _ _ h⟩
theorem IntBox.far {w w' : World} {p : Nat} {t : TypeId} {z : Int} (h : IntBox w p t z) (hb : w'.heap[p]? = w.heap[p]?) : IntBox w' p t z := hb.trans h
theorem IntBox.set {w : World} {p : Nat} {t : TypeId} {z : Int} (h : IntBox w p t z) (y : Int) : IntBox (w.setCell ⟨p, 0, none⟩ (.int .i64 y)) p t y := heap_setCell_same w p 0 _ t (.int .i64 y) h
theorem run_box {w : World} {p : Nat} {z : Int} (h : IntBox w p 3 z) : (loadVar 3 ⟨p, 0, none⟩).run Tryz.prog w = .ok (.int .i64 z) w := by
  have := h.facts.1
  simp [loadVar, go_sem, this]
theorem run_box' {w : World} {p : Nat} {z : Int} (h : IntBox w p 32 z) : (loadVar 32 ⟨p, 0, none⟩).run Tryz.prog w = .ok (.int .i64 z) w := by
  have := h.facts.1
  simp [loadVar, go_sem, this]
theorem results_int3 {fn : Func} {p q r : Tmp} (h : fn.results = #[.cell p 3, .cell q 3, .cell r 32]) (tmps : Array Value) (w : World) (b c d : Nat) (x y z : Int) (hp : tmps.getD p undef = .pointer (some ⟨b, 0, none⟩)) (hq : tmps.getD q undef = .pointer (some ⟨c, 0, none⟩)) (hr : tmps.getD r undef = .pointer (some ⟨d, 0, none⟩))
    (hx : IntBox w b 3 x) (hy : IntBox w c 3 y) (hz : IntBox w d 32 z) : (results fn tmps).run Tryz.prog w = .ok (.tuple #[.int .i64 x, .int .i64 y, .int .i64 z]) w := by
  have hp' : tmps[p]?.getD undef = .pointer (some ⟨b, 0, none⟩) := by simpa using hp
  have hq' : tmps[q]?.getD undef = .pointer (some ⟨c, 0, none⟩) := by simpa using hq
  have hr' : tmps[r]?.getD undef = .pointer (some ⟨d, 0, none⟩) := by simpa using hr
  simp [results, h, hp', hq', hr', asAddr, run_box hx, run_box hy, run_box' hz]
theorem walk_any (n : Nat) (x : Option Addr) (w : World) :
    CallsIn Fence.wide n Tryz.prog 31 #[.pointer x] w fun e w' => e = .returned (.func (.func 37) #[] #[.pointer (some ⟨w.heap.size, 0, none⟩)]) ∧ w' = w.alloc (.cells #[.pointer x] 30) := by
  refine callsIn_of_wp Tryz.func31 rfl trivial ?_ rfl
  simp only [Tryz.ntmps31, List.size_toArray, List.length_cons, List.length_nil, Nat.reduceAdd, Nat.reduceSub, Array.replicate_succ, Array.replicate_zero, List.push_toArray, List.append_toArray, List.nil_append, List.cons_append]
  gi_wp2
  go_ret
  exact ⟨rfl, rfl⟩
/-- the most of a list of depths. -/
def mostD (l : List Nat) : Nat := l.foldl max 0
/-- between two rounds. -/
structure MsS (w : World) (p L B : Nat) (pre : List (Nat × Addr)) (W : World) : Prop where
  size : IntBox W p 3 pre.length
  depth : IntBox W (p + 1) 3 (mostD (pre.map Prod.fst))
  code : IntBox W (p + 2) 32 0
  bel : Below w.heap.size w W
  hp : w.heap.size ≤ p
/-- the world behind a round. -/
def msW (W : World) (p m : Nat) (y : Int) (d : Nat) : World := (W.setCell ⟨p, 0, none⟩ (.int .i64 ((m : Int) + 1))).setCell ⟨p + 1, 0, none⟩ (.int .i64 (max y (d : Int)))
theorem msW_block {W : World} {p m : Nat} {y : Int} {d k : Nat} (h1 : k ≠ p) (h2 : k ≠ p + 1) : (msW W p m y d).heap[k]? = W.heap[k]? := by
  unfold msW
  rw [Below.heap_setCell _ _ _ _ h2, Below.heap_setCell _ _ _ _ h1]
theorem MsS.upper {w W : World} {p L B B4 : Nat} {pre : List (Nat × Addr)} (_h : MsS w p L B pre W) (hB : p + 1 < B4) (d : Nat) : Upper B4 W (msW W p pre.length (mostD (pre.map Prod.fst) : Nat) d) :=
  ((Upper.refl _ W).setCell (p := ⟨p, 0, none⟩) (Nat.lt_of_succ_lt hB) _).setCell (p := ⟨p + 1, 0, none⟩) hB _
theorem MsS.high {w W w4 : World} {p L B : Nat} {pre : List (Nat × Addr)} (_h : MsS w p L B pre W) (hB : B ≤ p) (d : Nat) (hT : ∀ k, L ≤ k → k < B → W.heap[k]? = w4.heap[k]?) (k : Nat) (h1 : L ≤ k) (h2 : k < B) : (msW W p pre.length (mostD (pre.map Prod.fst) : Nat) d).heap[k]? = w4.heap[k]? :=
  (msW_block (by omega) (by omega)).trans (hT k h1 h2)
theorem MsS.next {w W : World} {p L B : Nat} {pre : List (Nat × Addr)} (h : MsS w p L B pre W) (x : Nat × Addr) : MsS w p L B (pre ++ [x]) (msW W p pre.length (mostD (pre.map Prod.fst) : Nat) x.1) := by
  have e1 : (((pre ++ [x]).length : Nat) : Int) = (pre.length : Int) + 1 := by rw [List.length_append]; rfl
  have e2 : ((mostD ((pre ++ [x]).map Prod.fst) : Nat) : Int) = max ((mostD (pre.map Prod.fst) : Nat) : Int) (x.1 : Int) := by
    have : mostD ((pre ++ [x]).map Prod.fst) = max (mostD (pre.map Prod.fst)) x.1 := by
      rw [List.map_append, mostD, List.foldl_append]
      rfl
    rw [this]
    omega
  have b0 := h.size.set ((pre.length : Int) + 1)
  have b1 : IntBox (W.setCell ⟨p, 0, none⟩ (.int .i64 ((pre.length : Int) + 1))) (p + 1) 3 (mostD (pre.map Prod.fst)) := h.depth.far (Below.heap_setCell _ ⟨p, 0, none⟩ _ (p + 1) (by show p + 1 ≠ p; omega))
  refine ⟨?_, ?_, h.code.far (msW_block (by omega) (by omega)), ?_, h.hp⟩
  · rw [e1]
    exact b0.far (Below.heap_setCell _ ⟨p + 1, 0, none⟩ _ p (by show p ≠ p + 1; omega))
  · rw [e2]
    exact b1.set _
  · have hp := h.hp
    exact (h.bel.setCell (p := ⟨p, 0, none⟩) hp _).setCell (p := ⟨p + 1, 0, none⟩) (Nat.le_succ_of_le hp) _
/-- the world behind the answer. -/
def msF (W : World) (p : Nat) (x y z : Int) : World := ((W.setCell ⟨p, 0, none⟩ (.int .i64 x)).setCell ⟨p + 1, 0, none⟩ (.int .i64 y)).setCell ⟨p + 1 + 1, 0, none⟩ (.int .i64 z)
theorem msF_block {W : World} {p : Nat} {x y z : Int} {k : Nat} (h1 : k ≠ p) (h2 : k ≠ p + 1) (h3 : k ≠ p + 1 + 1) : (msF W p x y z).heap[k]? = W.heap[k]? := by
  unfold msF
  rw [Below.heap_setCell _ _ _ _ h3, Below.heap_setCell _ _ _ _ h2, Below.heap_setCell _ _ _ _ h1]
theorem MsS.done {w W : World} {p L B D : Nat} {pre : List (Nat × Addr)} (h : MsS w p L B pre W) (hD : p + 4 ≤ D) (o : Obj) (x y z : Int) :
    IntBox ((msF W p x y z).putObj D o) p 3 x ∧ IntBox ((msF W p x y z).putObj D o) (p + 1) 3 y ∧ IntBox ((msF W p x y z).putObj D o) (p + 1 + 1) 32 z ∧ Below w.heap.size w ((msF W p x y z).putObj D o) := by
  have hp := h.hp
  have b0 := h.size.set x
  have c0 := h.depth.far (w' := W.setCell ⟨p, 0, none⟩ (.int .i64 x)) (Below.heap_setCell _ ⟨p, 0, none⟩ _ (p + 1) (by show p + 1 ≠ p; omega))
  have d0 := h.code.far (w' := W.setCell ⟨p, 0, none⟩ (.int .i64 x)) (Below.heap_setCell _ ⟨p, 0, none⟩ _ (p + 2) (by show p + 2 ≠ p; omega))
  have b1 := b0.far (w' := (W.setCell ⟨p, 0, none⟩ (.int .i64 x)).setCell ⟨p + 1, 0, none⟩ (.int .i64 y)) (Below.heap_setCell _ ⟨p + 1, 0, none⟩ _ p (by show p ≠ p + 1; omega))
  have c1 := c0.set y
  have d1 := d0.far (w' := (W.setCell ⟨p, 0, none⟩ (.int .i64 x)).setCell ⟨p + 1, 0, none⟩ (.int .i64 y)) (Below.heap_setCell _ ⟨p + 1, 0, none⟩ _ (p + 2) (by show p + 2 ≠ p + 1; omega))
  have b2 := b1.far (w' := msF W p x y z) (Below.heap_setCell _ ⟨p + 1 + 1, 0, none⟩ _ p (by show p ≠ p + 1 + 1; omega))
  have c2 := c1.far (w' := msF W p x y z) (Below.heap_setCell _ ⟨p + 1 + 1, 0, none⟩ _ (p + 1) (by show p + 1 ≠ p + 1 + 1; omega))
  have d2 : IntBox (msF W p x y z) (p + 1 + 1) 32 z := IntBox.set (p := p + 1 + 1) d1 z
  refine ⟨b2.far (World.putObj_heap_other (by omega)), c2.far (World.putObj_heap_other (by omega)), d2.far (World.putObj_heap_other (by omega)), ?_⟩
  have hb : Below w.heap.size w (msF W p x y z) := ((h.bel.setCell (p := ⟨p, 0, none⟩) hp _).setCell (p := ⟨p + 1, 0, none⟩) (Nat.le_succ_of_le hp) _).setCell (p := ⟨p + 1 + 1, 0, none⟩) (Nat.le_succ_of_le (Nat.le_succ_of_le hp)) _
  exact hb.trans (below_put _ _ _ _ (by omega))
/-- what measure answers. -/
def msV (n : Nd) : Value := if ndDeep n ≤ 8000 then .tuple #[.int .i64 (ndSize n), .int .i64 (ndDeep n), .int .i64 0] else .tuple #[.int .i64 0, .int .i64 0, .int .i64 801]
attribute [local go_sem] Oper.semAt_some
set_option maxRecDepth 100000 in
set_option maxHeartbeats 4000000 in
theorem measure_any (n : Nd) (g o L B : Nat) (w : World) (hn : NdC w L B n g o) (hB : B ≤ w.heap.size) (hsz : ndSize n ≤ 4194304) :
    Calls Tryz.prog 25 #[.pointer (some ⟨g, o, none⟩)] w fun e w' => e = .returned (msV n) ∧ Below w.heap.size w w' := by
  refine (callsIn_wide (n := 4)).1 ?_
  refine callsIn_of_wp_marks Tryz.func25 rfl trivial ?_ rfl
  simp only [Tryz.ntmps25, List.size_toArray, List.length_cons, List.length_nil, Nat.reduceAdd, Nat.reduceSub, Array.replicate_succ, Array.replicate_zero, List.push_toArray, List.append_toArray, List.nil_append, List.cons_append]
  have HN := Lib.hid hn
  clear hn
  gi_wp2_with (refine ⟨trivial, ?_⟩; gi_at_call 31; refine (walk_any _ _ _).mono ?_; rintro e w' ⟨rfl, rfl⟩)
  have hB0 : Below w.heap.size w ((((w.alloc (.cells #[.int .i64 0] 3)).alloc (.cells #[.int .i64 0] 3)).alloc (.cells #[.int .i64 0] 32)).alloc (.cells #[.pointer (some ⟨g, o, none⟩)] 30)) := (((Below.alloc (Below.refl _ w) (Nat.le_refl _) _).alloc (by simp) _).alloc (by simp <;> omega) _).alloc (by simp <;> omega) _
  have hsz4 : ((((w.alloc (.cells #[.int .i64 0] 3)).alloc (.cells #[.int .i64 0] 3)).alloc (.cells #[.int .i64 0] 32)).alloc (.cells #[.pointer (some ⟨g, o, none⟩)] 30)).heap.size = w.heap.size + 4 := by simp
  have b3 := heap_alloc_new (((w.alloc (.cells #[.int .i64 0] 3)).alloc (.cells #[.int .i64 0] 3)).alloc (.cells #[.int .i64 0] 32)) (.cells #[.pointer (some ⟨g, o, none⟩)] 30)
  have b2 : ((((w.alloc (.cells #[.int .i64 0] 3)).alloc (.cells #[.int .i64 0] 3)).alloc (.cells #[.int .i64 0] 32)).alloc (.cells #[.pointer (some ⟨g, o, none⟩)] 30)).heap[w.heap.size + 2]? = some (.cells #[.int .i64 0] 32 (0, 0)) := by
    rw [Below.heap_alloc _ _ _ (by simp)]
    have := heap_alloc_new ((w.alloc (.cells #[.int .i64 0] 3)).alloc (.cells #[.int .i64 0] 3)) (.cells #[.int .i64 0] 32)
    rw [World.size_alloc, World.size_alloc] at this
    exact this
  have b1 : ((((w.alloc (.cells #[.int .i64 0] 3)).alloc (.cells #[.int .i64 0] 3)).alloc (.cells #[.int .i64 0] 32)).alloc (.cells #[.pointer (some ⟨g, o, none⟩)] 30)).heap[w.heap.size + 1]? = some (.cells #[.int .i64 0] 3 (0, 0)) := by
    rw [Below.heap_alloc _ _ _ (by simp), Below.heap_alloc _ _ _ (by simp)]
    have := heap_alloc_new (w.alloc (.cells #[.int .i64 0] 3)) (.cells #[.int .i64 0] 3)
    rw [World.size_alloc] at this
    exact this
  have b0 : ((((w.alloc (.cells #[.int .i64 0] 3)).alloc (.cells #[.int .i64 0] 3)).alloc (.cells #[.int .i64 0] 32)).alloc (.cells #[.pointer (some ⟨g, o, none⟩)] 30)).heap[w.heap.size]? = some (.cells #[.int .i64 0] 3 (0, 0)) := by
    rw [Below.heap_alloc _ _ _ (by simp <;> omega), Below.heap_alloc _ _ _ (by simp <;> omega), Below.heap_alloc _ _ _ (by simp)]
    exact heap_alloc_new _ _
  rw [show (((w.alloc (.cells #[.int .i64 0] 3)).alloc (.cells #[.int .i64 0] 3)).alloc (.cells #[.int .i64 0] 32)).heap.size = w.heap.size + 3 by simp] at b3
  have hMS : MsS w w.heap.size L B [] ((((w.alloc (.cells #[.int .i64 0] 3)).alloc (.cells #[.int .i64 0] 3)).alloc (.cells #[.int .i64 0] 32)).alloc (.cells #[.pointer (some ⟨g, o, none⟩)] 30)) := ⟨b0, b1, b2, hB0, Nat.le_refl _⟩
  have hN4 := NdC_bel HN.out (hB0.mono hB)
  clear b0 b1 b2
  generalize ((((w.alloc (.cells #[.int .i64 0] 3)).alloc (.cells #[.int .i64 0] 3)).alloc (.cells #[.int .i64 0] 32)).alloc (.cells #[.pointer (some ⟨g, o, none⟩)] 30)) = w4 at *
  have hsq := walk_seq n 3 (by omega) g o L B (w.heap.size + 3) w4 b3 hN4 (by omega) hsz
  clear b3
  have HB := Lib.hid hB0
  have HSQ := Lib.hid hsq
  have HMS := Lib.hid hMS
  have HN4 := Lib.hid hN4
  clear hB0 hsq hMS hN4
  refine wpIn_rangeFunc_own' rfl (by omega) (gf := 37) (lb := #[.pointer (some ⟨w.heap.size + 3, 0, none⟩)]) rfl trivial (enters_of Tryz.func37 (by kernel_rfl) rfl) HSQ.out (fun _ => rfl)
    (fun pre A => MsS w w.heap.size L B pre A ∧ ∀ k, L ≤ k → k < B → A.heap[k]? = w4.heap[k]?)
    (fun s A C h hb => ⟨⟨h.1.size.far (hb.block _ (by omega)), h.1.depth.far (hb.block _ (by omega)), h.1.code.far (hb.block _ (by omega)), h.1.bel.trans (hb.mono (by omega)), h.1.hp⟩, fun k h1 h2 => (hb.block k (by omega)).trans (h.2 k h1 h2)⟩)
    (fun s A h => h.2) ⟨HMS.out, fun _ _ _ => rfl⟩
    (fun x => { tmps := #[.pointer (some ⟨g, o, none⟩), undef, .pointer (some ⟨w.heap.size, 0, none⟩), .pointer (some ⟨w.heap.size + 1, 0, none⟩), .pointer (some ⟨w.heap.size + 1 + 1, 0, none⟩), .int .i64 x.1, .pointer (some ⟨g, o, none⟩), .func (.func 37) #[] #[.pointer (some ⟨w.heap.size + 1 + 1 + 1, 0, none⟩)], .int .i64 x.1, .pointer (some x.2), undef, undef, undef, undef, undef, undef, undef, undef, undef, undef, undef], defers := [] }) ?assign ?body ?done
  case assign =>
    intro l x W K hK
    gi_wp2
    exact hK
  case body =>
    rintro l pre x W ⟨hms, hT⟩ hlt hsW
    obtain ⟨d, a⟩ := x
    obtain ⟨s1, s2⟩ := hms.size.facts
    obtain ⟨d1, d2⟩ := hms.depth.facts
    have hp1 : w.heap.size < W.heap.size := hms.size.lt
    have hp2 : w.heap.size + 1 < W.heap.size := hms.depth.lt
    have HPL := Lib.hid (show pre.length < 4194304 by omega)
    have HSZ := Lib.hid hsz
    clear hsz hlt
    have HMS2 := Lib.hid hms
    have HT := Lib.hid hT
    clear hms hT
    have hwr : wrap64 ((pre.length : Int) + 1) = (pre.length : Int) + 1 := IntWalk.wrap64_in _ (by have := HPL.out; omega)
    have htt : decide ((4194304 : Int) < (pre.length : Int) + 1) = false := by have := HPL.out; rw [decide_eq_false_iff_not]; omega
    gi_wp2_with fail
    exact ⟨HMS2.out.upper (by omega) d, HMS2.out.next (d, a), HMS2.out.high (by omega) d HT.out⟩
  case done =>
    rintro D W xs hD hfin ⟨hms, hT⟩ hK
    obtain ⟨s1, s2⟩ := hms.size.facts
    obtain ⟨d1, d2⟩ := hms.depth.facts
    obtain ⟨e1, e2⟩ := hms.code.facts
    have hp1 : w.heap.size < W.heap.size := hms.size.lt
    have hp2 : w.heap.size + 1 < W.heap.size := hms.depth.lt
    have hp3 : w.heap.size + 1 + 1 < W.heap.size := hms.code.lt
    have hDl : D < W.heap.size := (Array.getElem?_eq_some_iff.1 hK).1
    have hlen : xs.length = ndSize n := by rw [← preD_len n 1, ← hfin, List.length_map]
    have hmost : mostD (xs.map Prod.fst) = ndDeep n := by rw [hfin, mostD, preD_max]; omega
    rw [hlen] at s1
    rw [hmost] at d1
    have HMS2 := Lib.hid hms
    have HK := Lib.hid hK
    have HSZ := Lib.hid hsz
    clear hms hT hfin hlen hmost hK hsz
    by_cases hd : ndDeep n ≤ 8000
    · have ht : decide ((8000 : Int) < ((ndDeep n : Nat) : Int)) = false := by rw [decide_eq_false_iff_not]; omega
      have HV := Lib.hid (show msV n = .tuple #[.int .i64 (ndSize n), .int .i64 (ndDeep n), .int .i64 0] by rw [msV, if_pos hd])
      clear hd
      gi_upto_region 9 with fail
      gi_region
      gi_wp2_with fail
      have hms3 : MsS w w.heap.size L B xs W.drew := ⟨HMS2.out.size, HMS2.out.depth, HMS2.out.code, Below.drew HMS2.out.bel, HMS2.out.hp⟩
      have hK3 : (msF W.drew w.heap.size (ndSize n) (ndDeep n) 0).heap[D]? = some (.deferred (some [])) := (msF_block (by omega) (by omega) (by omega)).trans HK.out
      change bodyPostM _ _ _ _ _ _ _ (msF W.drew w.heap.size (ndSize n) (ndDeep n) 0)
      refine ⟨by simp, .inl ⟨_, _, rfl, run_takeDeferred hK3, ?_⟩⟩
      obtain ⟨q0, q1, q2, q3⟩ := hms3.done (D := D) (by omega) (.deferred none) (ndSize n) (ndDeep n) 0
      refine ⟨_, results_int3 rfl _ _ w.heap.size (w.heap.size + 1) (w.heap.size + 1 + 1) _ _ _ rfl rfl rfl q0 q1 q2, ?_, q3⟩
      rw [HV.out]
    · have ht : decide ((8000 : Int) < ((ndDeep n : Nat) : Int)) = true := by rw [decide_eq_true_eq]; omega
      have HV := Lib.hid (show msV n = .tuple #[.int .i64 0, .int .i64 0, .int .i64 801] by rw [msV, if_neg hd])
      clear hd
      gi_wp2_with fail
      have hK3 : (msF W w.heap.size 0 0 801).heap[D]? = some (.deferred (some [])) := (msF_block (by omega) (by omega) (by omega)).trans HK.out
      refine ⟨by simp, .inl ⟨_, _, rfl, run_takeDeferred hK3, ?_⟩⟩
      obtain ⟨q0, q1, q2, q3⟩ := HMS2.out.done (D := D) (by omega) (.deferred none) 0 0 801
      refine ⟨_, results_int3 rfl _ _ w.heap.size (w.heap.size + 1) (w.heap.size + 1 + 1) _ _ _ rfl rfl rfl q0 q1 q2, ?_, q3⟩
      rw [HV.out]
end Go.Proofs.YteejjkfmmhegmaaGreatDoor
