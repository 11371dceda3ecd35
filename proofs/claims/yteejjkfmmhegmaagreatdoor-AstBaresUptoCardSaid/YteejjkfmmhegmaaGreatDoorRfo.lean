/- A range over a function whose iterator keeps memory of its own: a law for the caller whose loop body writes old blocks alone and never leaves early. No condition of size. -/
import Derived.RangeFuncBox
import Derived.RangeFuncNested
import Derived.RangeFuncLeaves
import Derived.Shelf.Abstract
import Derived.WalkKit
import Derived.OwnWalkIn
import Derived.TacticsInMore
import Derived.LoopNIn
import Derived.LoopIn
import Derived.Maps.AppendAt
import Derived.Lib.Hide
namespace Go.Proofs.YteejjkfmmhegmaaGreatDoor
open Go.RowKit
variable {F : Fence} {n : Nat} {P : Program}

/-- from block B on all lies as it lay. -/
def Upper (B : Nat) (W W' : World) : Prop := W.heap.size ≤ W'.heap.size ∧ ∀ k, B ≤ k → k < W.heap.size → W'.heap[k]? = W.heap[k]?
theorem Upper.refl (B : Nat) (W : World) : Upper B W W := ⟨Nat.le_refl _, fun _ _ _ => rfl⟩
theorem Upper.trans {B : Nat} {A C D : World} (h : Upper B A C) (k : Upper B C D) : Upper B A D := ⟨Nat.le_trans h.1 k.1, fun i h1 h2 => (k.2 i h1 (Nat.lt_of_lt_of_le h2 h.1)).trans (h.2 i h1 h2)⟩
theorem Upper.mono {B B' : Nat} {A C : World} (h : Upper B A C) (hB : B ≤ B') : Upper B' A C := ⟨h.1, fun i h1 h2 => h.2 i (Nat.le_trans hB h1) h2⟩
theorem Upper.setCell {B : Nat} {A C : World} (h : Upper B A C) {p : Addr} (hp : p.block < B) (v : Value) : Upper B A (C.setCell p v) :=
  ⟨by have := h.1; simpa [World.setCell] using this, fun k h1 h2 => (Below.heap_setCell _ _ _ _ (by omega)).trans (h.2 k h1 h2)⟩
theorem Upper.alloc {B : Nat} {A C : World} (h : Upper B A C) (o : Obj) : Upper B A (C.alloc o) :=
  ⟨by rw [World.size_alloc]; have := h.1; omega, fun k h1 h2 => (Below.heap_alloc C o k (Nat.lt_of_lt_of_le h2 h.1)).trans (h.2 k h1 h2)⟩
/-- what the iterator owes: it hands over at most N values, one by one, in the end such as Fin says; it writes no block that was there when it was called; T: what it reads. -/
def SeqOwn {α : Type} (F : Fence) (n : Nat) (P : Program) (g : Nat) (lb : Array Value) (encs : α → Array Value) (T : World → Prop) (N : Nat) (Fin : List α → Prop) (w : World) : Prop :=
  ∀ (l : Nat) (J : List α → World → Prop) (W : World), Below w.heap.size w W → (∀ s A B, J s A → Below W.heap.size A B → J s B) → (∀ s A, J s A → T A) →
    (∀ pre x W1, J pre W1 → pre.length < N → W.heap.size ≤ W1.heap.size → YieldAt F (n - 1) P l (encs x) W1 fun e W' => e = .returned (.bool true) ∧ J (pre ++ [x]) W' ∧ Upper W.heap.size W1 W') →
    J [] W → CallsIn F n P g (#[.func (.yield l) #[] #[]] ++ lb) W fun e W' => (∃ v, e = .returned v) ∧ ∃ xs, Fin xs ∧ J xs W'
/-- how a round may end. -/
def ownEnd {α : Type} (B : Nat) (I : List α → World → Prop) (xs : List α) (W : World) : Exit → Act → World → Prop
  | .normal, _, W' => Upper B W W' ∧ I xs W'
  | _, _, _ => False
theorem below_put (W : World) (l : Nat) (o : Obj) (B : Nat) (h : B ≤ l) : Below B W (W.putObj l o) :=
  ⟨rfl, rfl, rfl, by simp, fun k hk => World.putObj_heap_other (by omega)⟩
theorem upper_put (W : World) (l : Nat) (o : Obj) (B : Nat) (h : l < B) : Upper B W (W.putObj l o) := ⟨by simp, fun k h1 _ => World.putObj_heap_other (by omega)⟩
theorem wpIn_rangeFunc_own' {α : Type} {g : Operand} {ps : Array Tmp} {assign body : Code} {Q : Exit → Act → World → Prop} {a : Act} {w : World}
    (hro : F.round = none) (h1 : 1 ≤ n) {gf : Nat} {lb : Array Value} (hg : a.eval g = .func (.func gf) #[] lb) (hFg : F.fn gf) (eg : ∀ args w, (callFunc gf args).run P w = .ok (.enter gf args) w)
    {encs : α → Array Value} {T : World → Prop} {N : Nat} {Fin : List α → Prop} (hseq : SeqOwn F (n - 1) P gf lb encs T N Fin w) (hps : ∀ x, (encs x).size = ps.size)
    (I : List α → World → Prop) (hIa : ∀ s A B, I s A → Below w.heap.size A B → I s B) (hIT : ∀ s A, I s A → T A) (h0 : I [] w) (a₁ : α → Act)
    (hassign : ∀ (l : Nat) (x : α) (W : World) (K : Act → World → Prop), K (a₁ x) W →
      assign.wpIn (F.inRound l) (n - 1 - 1) P (Exit.then K (fun _ _ _ => False)) { tmps := (ps.zip (encs x)).foldl (fun t (p, v) => t.setIfInBounds p v) a.tmps, defers := [] } W)
    (hbody : ∀ (l : Nat) (pre : List α) (x : α) (W : World), I pre W → pre.length < N → w.heap.size ≤ W.heap.size → body.wpIn (F.inRound l) (n - 1 - 1) P (ownEnd w.heap.size I (pre ++ [x]) W) (a₁ x) W)
    (hdone : ∀ (D : Nat) (W : World) (xs : List α), w.heap.size ≤ D → Fin xs → I xs W → W.heap[D]? = some (.deferred (some [])) → Q .normal { a with defers := { target := .collected D, args := #[] } :: a.defers } W) :
    (Code.rangeFunc g ps assign body).wpIn F n P Q a w := by
  refine wpIn_rangeFunc fun fn hfn => ?_
  rw [hro]
  let rec' : LoopState → Loop := fun st => { state := st, pending := none, fn := fn, tmps := a.tmps, params := ps, assign := assign, body := body, defers := w.heap.size }
  let W1 : World := (w.alloc (.deferred (some []))).alloc (.loop (rec' .ready))
  have hs1 : W1.heap.size = w.heap.size + 2 := by show ((w.alloc _).alloc _).heap.size = _; rw [World.size_alloc, World.size_alloc]
  have hL1 : W1.heap[w.heap.size + 1]? = some (.loop (rec' .ready)) := by
    have := World.alloc_heap_new (w.alloc (.deferred (some []))) (.loop (rec' .ready))
    rwa [World.size_alloc] at this
  have hK1 : W1.heap[w.heap.size]? = some (.deferred (some [])) := (Below.heap_alloc _ _ _ (by simp)).trans (World.alloc_heap_new w _)
  have hB1 : Below w.heap.size w W1 := ((Below.refl _ w).alloc (Nat.le_refl _) _).alloc (by simp) _
  refine ⟨w.heap.size + 1, [{ target := .collected w.heap.size, args := #[] }], W1, { target := .fn (.func gf) lb, args := #[.func (.yield (w.heap.size + 1)) #[] #[]] }, W1, gf,
    #[.func (.yield (w.heap.size + 1)) #[] #[]] ++ lb, W1, run_enterLoop_outer _ _ _ _ _, ?_, ?_, ?_, fun _ => h1, ?_⟩
  · simp only [resolve, hg]
    simp [go_sem]
  · intro f' hf'; simp [Target.leads] at hf'; subst hf'; exact hFg
  · simp [invoke, go_sem, eg]
  refine (hseq (w.heap.size + 1)
    (fun pre W => I pre W ∧ W.heap[w.heap.size + 1]? = some (.loop (rec' .ready)) ∧ W.heap[w.heap.size]? = some (.deferred (some [])))
    W1 hB1 ?_ ?_ ?_ ⟨hIa _ _ _ h0 hB1, hL1, hK1⟩).mono ?_
  · rintro s A B ⟨hi, hl, hk⟩ hb
    rw [hs1] at hb
    exact ⟨hIa _ _ _ hi (hb.mono (by omega)), (hb.block _ (by omega)).trans hl, (hb.block _ (by omega)).trans hk⟩
  · rintro s A ⟨hi, _, _⟩
    exact hIT _ _ hi
  · rintro pre x W ⟨hi, hl, hk⟩ hlen hsz
    have hlt : w.heap.size + 1 < W.heap.size := (Array.getElem?_eq_some_iff.1 hl).1
    refine ⟨fn, _, assign, body, run_yield (P := P) (args := encs x) hl (hps x), roundIn_of_wpIn hfn (hassign _ x W _ ⟨_, run_beginRound hl rfl, ?_⟩)⟩
    have hl2 : (W.putObj (w.heap.size + 1) (.loop (rec' .busy))).heap[w.heap.size + 1]? = some (.loop (rec' .busy)) := World.putObj_heap_same hlt
    have hk2 : (W.putObj (w.heap.size + 1) (.loop (rec' .busy))).heap[w.heap.size]? = some (.deferred (some [])) := (World.putObj_heap_other (by omega)).trans hk
    have hz2 : (W.putObj (w.heap.size + 1) (.loop (rec' .busy))).heap.size = W.heap.size := by simp
    refine wpIn_mono (hbody _ pre x _ (hIa _ _ _ hi (below_put _ _ _ _ (by omega))) hlen (by rw [hz2]; omega)) ?_
    rintro e a3 W3 hp
    cases e with
    | normal =>
      obtain ⟨hk3, hi3⟩ := hp
      have hl3 := (hk3.2 _ (by omega) (by rw [hz2]; omega)).trans hl2
      have hd3 := (hk3.2 _ (by omega) (by rw [hz2]; omega)).trans hk2
      have hlt3 := (Array.getElem?_eq_some_iff.1 hl3).1
      refine ⟨_, _, run_endRound (P := P) none hl3, rfl, ⟨hIa _ _ _ hi3 (below_put _ _ _ _ (by omega)), World.putObj_heap_same hlt3, (World.putObj_heap_other (by omega)).trans hd3⟩, ?_⟩
      refine ((upper_put W _ (.loop (rec' .busy)) _ (by omega)).trans (hk3.mono (by omega))).trans (upper_put W3 _ _ _ (by omega))
    | ret => exact hp.elim
    | exit id => exact hp.elim
    | goto t => exact hp.elim
    | panic ch => exact hp.elim
    | outgrown => exact hp.elim
  · rintro e W2 ⟨⟨v, rfl⟩, xs, hfin, hi, hl, hk⟩
    exact ⟨none, _, run_endLoop (P := P) hl (by simp [rec']), hdone _ _ xs (Nat.le_refl _) hfin (hIa _ _ _ hi (below_put _ _ _ _ (by omega))) ((World.putObj_heap_other (by omega)).trans hk)⟩
end Go.Proofs.YteejjkfmmhegmaaGreatDoor
