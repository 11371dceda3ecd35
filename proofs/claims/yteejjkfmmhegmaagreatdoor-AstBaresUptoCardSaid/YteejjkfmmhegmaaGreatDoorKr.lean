/- A row of kids under way: what append collects of trees that calls have made. No condition. -/
import Derived.Test.YteejjkfmmhegmaaGreatDoorSn
import Derived.Deep.AppendLies
import Derived.Laws.AppendOwn
import Derived.Laws.OwnMore
namespace Go.Proofs.YteejjkfmmhegmaaGreatDoor
open Go.RowKit

def kidCells : List Nd → List (Option Addr × Nat) → List Value
  | n :: ns, b :: bs => (ndCells n.kind n.text b.1 n.kids.length b.2 n.from' n.till).toList ++ kidCells ns bs
  | _, _ => []
theorem kidCells_len : ∀ (ns : List Nd) (bs : List (Option Addr × Nat)), bs.length = ns.length → (kidCells ns bs).length = ns.length * 5
  | [], [], _ => rfl
  | [], _ :: _, h => by simp at h
  | _ :: _, [], h => by simp at h
  | n :: ns, b :: bs, h => by
    rw [kidCells, List.length_append, kidCells_len ns bs (by simpa using h), List.length_cons]
    simp [ndCells]
    omega
theorem kidCells_snoc : ∀ (ns : List Nd) (bs : List (Option Addr × Nat)) (n : Nd) (b : Option Addr × Nat), bs.length = ns.length → kidCells (ns ++ [n]) (bs ++ [b]) = kidCells ns bs ++ (ndCells n.kind n.text b.1 n.kids.length b.2 n.from' n.till).toList
  | [], [], _, _, _ => by simp [kidCells]
  | [], _ :: _, _, _, h => by simp at h
  | _ :: _, [], _, _, h => by simp at h
  | m :: ns, c :: bs, n, b, h => by
    rw [List.cons_append, List.cons_append, kidCells, kidCells, kidCells_snoc ns bs n b (by simpa using h), List.append_assoc]
theorem kidCells_get : ∀ (ns : List Nd) (bs : List (Option Addr × Nat)) (hl : bs.length = ns.length) (j i : Nat) (hj : j < ns.length), i < 5 → (kidCells ns bs)[j * 5 + i]? = (ndCells ns[j].kind ns[j].text (bs[j]'(by omega)).1 ns[j].kids.length (bs[j]'(by omega)).2 ns[j].from' ns[j].till)[i]?
  | [], _, _, j, _, hj, _ => absurd hj (by simp)
  | _ :: _, [], h, _, _, _, _ => by simp at h
  | n :: ns, b :: bs, h, 0, i, _, hi => by
    rw [kidCells, Nat.zero_mul, Nat.zero_add, List.getElem?_append_left (by simp [ndCells]; omega)]
    simp
  | n :: ns, b :: bs, h, j + 1, i, hj, hi => by
    rw [kidCells, List.getElem?_append_right (by simp [ndCells]; omega)]
    have e : (j + 1) * 5 + i - (ndCells n.kind n.text b.1 n.kids.length b.2 n.from' n.till).toList.length = j * 5 + i := by simp [ndCells]; omega
    rw [e, kidCells_get ns bs (by simpa using h) j i (by simpa using hj) hi]
    rfl
theorem kidCells_one : ∀ (ns : List Nd) (bs : List (Option Addr × Nat)), ∀ u ∈ kidCells ns bs, u.oneCell' = true
  | [], _, u, h => by simp [kidCells] at h
  | _ :: _, [], u, h => by simp [kidCells] at h
  | n :: ns, b :: bs, u, h => by
    rw [kidCells] at h
    rcases List.mem_append.1 h with h | h
    · simp only [ndCells, List.mem_cons, List.not_mem_nil, or_false] at h
      rcases h with rfl | rfl | rfl | rfl | rfl <;> rfl
    · exact kidCells_one ns bs u h
/-- what is asked of a kid's row: its place, its room. -/
abbrev RowPred := World → Nat → Nat → Nd → Option Addr → Nat → Prop
/-- it looks at the blocks from L up to B alone. -/
structure Keeps (R : RowPred) : Prop where
  k : ∀ {w w' : World} {L B L' B' : Nat} {x : Nd} {b : Option Addr} {c : Nat}, L' ≤ L → B ≤ B' → (∀ k, L ≤ k → k < B → w'.heap[k]? = w.heap[k]?) → R w L B x b c → R w' L' B' x b c
/-- the rows that the collected kids lead to lie in blocks of their own, none of them the block of the row itself. -/
def KRow (R : RowPred) (w : World) (base : Nat) (v : Value) (xs : List Nd) : Prop :=
  ∃ bs : List (Option Addr × Nat), bs.length = xs.length ∧ w.ownsRow base 24 5 v xs.length (kidCells xs bs) ∧
    ∀ j, (hj : j < xs.length) → (hb : j < bs.length) → ∃ L B, base ≤ L ∧ B ≤ w.heap.size ∧ (∀ g, v.ownBlock = some g → g < L ∨ B ≤ g) ∧ R w L B xs[j] bs[j].1 bs[j].2
theorem KRow.nil (R : RowPred) (w : World) (base : Nat) : KRow R w base (.slice none 0 0) [] := ⟨[], rfl, World.ownsRow_nil _ _ _ _, fun j h => absurd h (by simp)⟩
theorem KRow.high {R : RowPred} (hR : Keeps R) {w w' : World} {base : Nat} {v : Value} {xs : List Nd} (h : KRow R w base v xs) (hz : w.heap.size ≤ w'.heap.size) (hk : ∀ k, base ≤ k → k < w.heap.size → w'.heap[k]? = w.heap[k]?) : KRow R w' base v xs := by
  obtain ⟨bs, h1, h2, h3⟩ := h
  refine ⟨bs, h1, ⟨h2.1, ?_⟩, fun j hj hbj => ?_⟩
  · rcases h2.2 with h | ⟨g, cap, cur, hv, hg, hc, r⟩
    · exact .inl h
    · exact .inr ⟨g, cap, cur, hv, hg, (hk g hg (Array.getElem?_eq_some_iff.1 hc).1).trans hc, r⟩
  · obtain ⟨L, B, c1, c2, c3, c4⟩ := h3 j hj hbj
    exact ⟨L, B, c1, Nat.le_trans c2 hz, c3, hR.k (Nat.le_refl _) (Nat.le_refl _) (fun k k1 k2 => hk k (by omega) (by omega)) c4⟩
theorem KRow.bel {R : RowPred} (hR : Keeps R) {w w' : World} {base : Nat} {v : Value} {xs : List Nd} (h : KRow R w base v xs) (hb : Below w.heap.size w w') : KRow R w' base v xs :=
  h.high hR hb.size fun k _ h2 => hb.block k h2
/-- the row's cells. -/
noncomputable def KRow.cells {R : RowPred} {w : World} {base : Nat} {v : Value} {xs : List Nd} (h : KRow R w base v xs) : List Value := kidCells xs (Classical.choose h)
theorem KRow.own {R : RowPred} {w : World} {base m : Nat} {v : Value} {xs : List Nd} (h : KRow R w base v xs) (hm : xs.length = m) : w.ownsRow base 24 5 v m h.cells := by
  subst hm
  exact (Classical.choose_spec h).2.1
/-- one more: x's rows lie in blocks from L up to B, behind the row; the append wrote the row's block, or a new one. -/
theorem KRow.push {R : RowPred} (hR : Keeps R) {w1 w2 : World} {base m : Nat} {v : Value} {xs : List Nd} {x : Nd} {b : Option Addr} {cap g cap2 L B : Nat} {o : Obj} (h : KRow R w1 base v xs) (hm : xs.length = m) (hL : base ≤ L) (hv : ∀ g, v.ownBlock = some g → g < L) (hB : B ≤ w1.heap.size) (hr : R w1 L B x b cap)
    (ho : w2.ownsRow base 24 5 (.slice (some ⟨g, 0, none⟩) (m + 1) cap2) (m + 1) (h.cells ++ (ndCells x.kind x.text b x.kids.length cap x.from' x.till).toList)) (hg : (w1.alloc o).grownBy w2 v.ownBlock) (hat : v.ownBlock = some g ∨ g = w1.heap.size + 1) :
    KRow R w2 base (.slice (some ⟨g, 0, none⟩) (m + 1) cap2) (xs ++ [x]) := by
  subst hm
  unfold KRow.cells at ho
  obtain ⟨h1, h2, h3⟩ := Classical.choose_spec h
  generalize Classical.choose h = bs at *
  have hsz : (w1.alloc o).heap.size = w1.heap.size + 1 := World.size_alloc _ _
  have hgs := hg.size
  -- an old block but the row's own lies as it lay
  have hold : ∀ k, k < w1.heap.size → v.ownBlock ≠ some k → w2.heap[k]? = w1.heap[k]? := fun k hk hne => (hg.block k (by omega) (fun e => hne e.symm)).trans (Below.heap_alloc _ _ _ hk)
  refine ⟨bs ++ [(b, cap)], by simp [h1], ?_, fun j hj hbj => ?_⟩
  · rw [kidCells_snoc xs bs x (b, cap) h1, List.length_append]
    exact ho
  · by_cases hlt : j < xs.length
    · have hbl : j < bs.length := by omega
      rw [List.getElem_append_left hlt, List.getElem_append_left hbl]
      obtain ⟨L', B', c1, c2, c3, c4⟩ := h3 j hlt hbl
      refine ⟨L', B', c1, by omega, fun g' e => ?_, hR.k (Nat.le_refl _) (Nat.le_refl _) (fun k k1 k2 => ?_) c4⟩
      · have e' : g = g' := by simpa [Value.ownBlock] using e
        subst e'
        rcases hat with hat | hat
        · exact c3 g hat
        · right; omega
      · refine hold k (by omega) (fun e => ?_)
        rcases c3 k e with h | h <;> omega
    · have hje : j = xs.length := by simp at hj; omega
      subst hje
      rw [List.getElem_append_right (Nat.le_refl _), List.getElem_append_right (by omega)]
      simp only [Nat.sub_self, List.getElem_cons_zero, h1]
      refine ⟨L, B, hL, by omega, fun g' e => ?_, hR.k (Nat.le_refl _) (Nat.le_refl _) (fun k k1 k2 => ?_) hr⟩
      · have e' : g = g' := by simpa [Value.ownBlock] using e
        subst e'
        rcases hat with hat | hat
        · left
          exact hv g hat
        · right; omega
      · refine hold k (by omega) (fun e => ?_)
        have := hv k e
        omega
/-- what the row holds of a kid: its cells, at a place that may be written, and its row. -/
def KidAt (R : RowPred) (w : World) (base B : Nat) (x : Nd) (g o : Nat) : Prop :=
  base ≤ g ∧ g < B ∧ o % 5 = 0 ∧ (∀ i, i < 5 → w.frozen? ⟨g, o + i, none⟩ = false) ∧ ∃ b cap, (∀ i, i < 5 → w.cell? ⟨g, o + i, none⟩ = (ndCells x.kind x.text b x.kids.length cap x.from' x.till)[i]?) ∧ R w base B x b cap
/-- the row is a node's kids. -/
theorem KRow.at' {R : RowPred} (hR : Keeps R) {w : World} {base : Nat} {v : Value} {xs : List Nd} (h : KRow R w base v xs) :
    ∃ b cap, v = .slice b xs.length cap ∧ xs.length ≤ cap ∧ ∀ j, (hj : j < xs.length) → ∃ g, b = some ⟨g, 0, none⟩ ∧ KidAt R w base w.heap.size xs[j] g (j * 5) := by
  obtain ⟨bs, h1, h2, h3⟩ := h
  rcases h2.2 with ⟨rfl, h0⟩ | ⟨g, cap, cur, rfl, hg, hc, hn, hrest⟩
  · have : xs = [] := List.length_eq_zero_iff.1 h0
    subst this
    exact ⟨none, 0, rfl, Nat.le_refl _, fun j hj => absurd hj (by simp)⟩
  · refine ⟨_, cap, rfl, hn, fun j hj => ⟨g, rfl, ?_⟩⟩
    have hlt := (Array.getElem?_eq_some_iff.1 hc).1
    have hbj : j < bs.length := by omega
    have hcell : ∀ i, i < 5 → w.cell? ⟨g, j * 5 + i, none⟩ = (ndCells xs[j].kind xs[j].text bs[j].1 xs[j].kids.length bs[j].2 xs[j].from' xs[j].till)[i]? := fun i hi => by
      rw [h2.cellAt (j * 5 + i) (by omega)]
      exact kidCells_get xs bs h1 j i hj hi
    obtain ⟨L, B, c1, c2, _, c4⟩ := h3 j hj hbj
    exact ⟨hg, hlt, by omega, fun i hi => frozen_of_row w g _ _ _ hc, bs[j].1, bs[j].2, hcell, hR.k c1 c2 (fun _ _ _ => rfl) c4⟩
/- a tree that may be written: its places, whatever stands in them. -/
mutual
def ShC (w : World) (L B : Nat) : Nd → Nat → Nat → Prop
  | .mk _ _ ks _ _, g, o => L ≤ g ∧ g < B ∧ o % 5 = 0 ∧ w.frozen? ⟨g, o, none⟩ = false ∧ (∃ z, w.cell? ⟨g, o, none⟩ = some (.int .i64 z)) ∧ ∃ b cap, w.cell? ⟨g, o + 2, none⟩ = some (.slice b ks.length cap) ∧ ShR w L B ks b 0
def ShR (w : World) (L B : Nat) : List Nd → Option Addr → Nat → Prop
  | [], _, _ => True
  | k :: ks, a, i => (∃ g off, a = some ⟨g, off, none⟩ ∧ ShC w L B k g (off + i * 5)) ∧ ShR w L B ks a (i + 1)
end
theorem ShC_eq (w : World) (L B : Nat) (n : Nd) (g o : Nat) : ShC w L B n g o = (L ≤ g ∧ g < B ∧ o % 5 = 0 ∧ w.frozen? ⟨g, o, none⟩ = false ∧ (∃ z, w.cell? ⟨g, o, none⟩ = some (.int .i64 z)) ∧ ∃ b cap, w.cell? ⟨g, o + 2, none⟩ = some (.slice b n.kids.length cap) ∧ ShR w L B n.kids b 0) := by
  cases n
  rw [ShC]
  rfl
theorem ShR_get {w : World} {L B : Nat} {a : Option Addr} : ∀ {ks : List Nd} {i : Nat}, ShR w L B ks a i → ∀ j, (h : j < ks.length) → ∃ g off, a = some ⟨g, off, none⟩ ∧ ShC w L B ks[j] g (off + (i + j) * 5)
  | [], _, _, j, h => absurd h (by simp)
  | k :: ks, i, hr, j, h => by
    rw [ShR] at hr
    cases j with
    | zero => exact hr.1
    | succ j =>
      have := ShR_get hr.2 j (by simpa using h)
      rw [show i + 1 + j = i + (j + 1) by omega] at this
      exact this
theorem ShR_of {w : World} {L B : Nat} {a : Option Addr} : ∀ {ks : List Nd} {i : Nat}, (∀ j, (h : j < ks.length) → ∃ g off, a = some ⟨g, off, none⟩ ∧ ShC w L B ks[j] g (off + (i + j) * 5)) → ShR w L B ks a i
  | [], _, _ => by rw [ShR]; trivial
  | k :: ks, i, h => by
    rw [ShR]
    refine ⟨h 0 (by simp), ShR_of fun j hj => ?_⟩
    have := h (j + 1) (by simpa using hj)
    rw [show i + 1 + j = i + (j + 1) by omega]
    exact this
theorem ShC_keep {w w' : World} {L B L' B' : Nat} (hL : L' ≤ L) (hB : B ≤ B') (hk : ∀ k, L ≤ k → k < B → w'.heap[k]? = w.heap[k]?) (n : Nd) : ∀ g o, ShC w L B n g o → ShC w' L' B' n g o := by
  induction n using Nd.ind with
  | h n ih =>
    intro g o h
    rw [ShC_eq] at h ⊢
    obtain ⟨h2, h3, h4, h5, ⟨z, h6⟩, b, cap, c2, hr⟩ := h
    have hcell : ∀ o, w'.cell? ⟨g, o, none⟩ = w.cell? ⟨g, o, none⟩ := fun o => World.cell?_of_block (hk g h2 h3)
    refine ⟨by omega, by omega, h4, (World.frozen?_of_block (a := ⟨g, o, none⟩) (hk g h2 h3)).trans h5, ⟨z, by rw [hcell]; exact h6⟩, b, cap, by rw [hcell]; exact c2, ShR_of fun j hj => ?_⟩
    obtain ⟨g', off, ha, hn⟩ := ShR_get hr j hj
    exact ⟨g', off, ha, ih _ (List.getElem_mem hj) _ _ hn⟩
theorem ShR_keep {w w' : World} {L B L' B' : Nat} (hL : L' ≤ L) (hB : B ≤ B') (hk : ∀ k, L ≤ k → k < B → w'.heap[k]? = w.heap[k]?) {ks : List Nd} {a : Option Addr} {i : Nat} (h : ShR w L B ks a i) : ShR w' L' B' ks a i :=
  ShR_of fun j hj => by
    obtain ⟨g, off, ha, hn⟩ := ShR_get h j hj
    exact ⟨g, off, ha, ShC_keep hL hB hk _ _ _ hn⟩
/-- a kid's row as this code makes it: a tree, at places that may be written. -/
def RowE (w : World) (L B : Nat) (x : Nd) (b : Option Addr) (c : Nat) : Prop := x.kids.length ≤ c ∧ RowP w L B x.kids b 0 ∧ ShR w L B x.kids b 0
theorem RowE.keeps : Keeps RowE := ⟨fun hL hB hk ⟨h1, h2, h3⟩ => ⟨h1, RowP_keep hL hB hk h2, ShR_keep hL hB hk h3⟩⟩
theorem KidAt.ndc {w : World} {L B : Nat} {x : Nd} {g o : Nat} (h : KidAt RowE w L B x g o) : NdC w L B x g o := by
  obtain ⟨h1, h2, _, _, b, cap, hc, h3, h4, _⟩ := h
  rw [NdC_eq]
  exact ⟨b, cap, h1, h2, hc 0 (by decide), hc 1 (by decide), hc 2 (by decide), hc 3 (by decide), hc 4 (by decide), h3, h4⟩
theorem KidAt.shc {w : World} {L B : Nat} {x : Nd} {g o : Nat} (h : KidAt RowE w L B x g o) : ShC w L B x g o := by
  obtain ⟨h1, h2, h3, h4, b, cap, hc, _, _, h5⟩ := h
  rw [ShC_eq]
  exact ⟨h1, h2, h3, h4 0 (by decide), ⟨_, hc 0 (by decide)⟩, b, cap, hc 2 (by decide), h5⟩
/-- the row is a node's kids. -/
theorem KRow.row {w : World} {base : Nat} {v : Value} {xs : List Nd} (h : KRow RowE w base v xs) : ∃ b cap, v = .slice b xs.length cap ∧ xs.length ≤ cap ∧ RowP w base w.heap.size xs b 0 ∧ ShR w base w.heap.size xs b 0 := by
  obtain ⟨b, cap, rfl, hn, hk⟩ := h.at' RowE.keeps
  refine ⟨b, cap, rfl, hn, RowP_of fun j hj => ?_, ShR_of fun j hj => ?_⟩
  · obtain ⟨g, rfl, hx⟩ := hk j hj
    exact ⟨g, 0, rfl, by rw [Nat.zero_add, Nat.zero_add]; exact hx.ndc⟩
  · obtain ⟨g, rfl, hx⟩ := hk j hj
    exact ⟨g, 0, rfl, by rw [Nat.zero_add, Nat.zero_add]; exact hx.shc⟩
/-- a node's value as this code makes it. -/
def NdW (w : World) (L B : Nat) (n : Nd) (v : Value) : Prop := ∃ b cap, v = .agg (ndCells n.kind n.text b n.kids.length cap n.from' n.till) ∧ RowE w L B n b cap
theorem NdW.v {w : World} {L B : Nat} {n : Nd} {v : Value} (h : NdW w L B n v) : NdV w L B n v := by
  obtain ⟨b, cap, h1, h2, h3, _⟩ := h
  exact ⟨b, cap, h1, h2, h3⟩
theorem NdW.bel {w w' : World} {L B : Nat} {n : Nd} {v : Value} (h : NdW w L B n v) (hb : Below B w w') : NdW w' L B n v := by
  obtain ⟨b, cap, h1, h2⟩ := h
  exact ⟨b, cap, h1, RowE.keeps.k (Nat.le_refl _) (Nat.le_refl _) (fun k _ hk => hb.block k hk) h2⟩
end Go.Proofs.YteejjkfmmhegmaaGreatDoor
