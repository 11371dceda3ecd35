/- Trees in plain Lean: what package ast computes of them; and how they lie in memory. | Contracts of ShallowNode, CopyNode's kin that only read: shallowNode, Same (the program's and the reference's), SameNode. Condition: at most 2^22 nodes. | Contracts of Same (the program's and the reference's) and SameNode. Condition: at most 2^22 nodes. | Contract of SameNode on two places that hold the same tree; of roomNode. Condition: at most 2^22 nodes. | A row of kids under way: what append collects of trees that calls have made. No condition. | Contracts of CopyNode, LendNode. Condition: at most 2^22 nodes. -/
import Derived.Test.YteejjkfmmhegmaaGreatDoorBase
import Derived.Deep.QuietTactic
import Derived.BigQuiet
import Derived.StillTailTactics
import Derived.Deep.AppendLies
import Derived.Laws.AppendOwn
import Derived.Laws.OwnMore
import Derived.Deep.RegionHeld3
import Derived.Deep.RegionLaw
namespace Go.Proofs.YteejjkfmmhegmaaGreatDoor
open Go.RowKit

inductive Nd where
  | mk (kind : Int) (text : ByteArray) (kids : List Nd) (from' till : Int)
def Nd.kind : Nd → Int | .mk k _ _ _ _ => k
def Nd.text : Nd → ByteArray | .mk _ t _ _ _ => t
def Nd.kids : Nd → List Nd | .mk _ _ ks _ _ => ks
def Nd.from' : Nd → Int | .mk _ _ _ f _ => f
def Nd.till : Nd → Int | .mk _ _ _ _ t => t
def Nd.zero : Nd := .mk 0 ⟨#[]⟩ [] 0 0
mutual
def ndSize : Nd → Nat
  | .mk _ _ ks _ _ => 1 + ndSizes ks
def ndSizes : List Nd → Nat
  | [] => 0
  | k :: ks => ndSize k + ndSizes ks
end
mutual
def ndDeep : Nd → Nat
  | .mk _ _ ks _ _ => 1 + ndDeeps ks
def ndDeeps : List Nd → Nat
  | [] => 0
  | k :: ks => max (ndDeep k) (ndDeeps ks)
end
theorem ndSize_eq (n : Nd) : ndSize n = 1 + ndSizes n.kids := by cases n; rw [ndSize]; rfl
theorem ndDeep_eq (n : Nd) : ndDeep n = 1 + ndDeeps n.kids := by cases n; rw [ndDeep]; rfl
theorem ndSizes_mem : ∀ {ks : List Nd} {x : Nd}, x ∈ ks → ndSize x ≤ ndSizes ks
  | [], _, h => by cases h
  | k :: ks, x, h => by
    rw [ndSizes]
    rcases List.mem_cons.1 h with rfl | h
    · omega
    · have := ndSizes_mem h; omega
theorem Nd.ind {P : Nd → Prop} (h : ∀ n, (∀ x ∈ n.kids, P x) → P n) (n : Nd) : P n := by
  have key : ∀ m n, ndSize n ≤ m → P n := by
    intro m
    induction m with
    | zero => intro n hn; rw [ndSize_eq] at hn; omega
    | succ m ih =>
      intro n hn
      refine h n fun x hx => ih x ?_
      have := ndSizes_mem hx
      rw [ndSize_eq] at hn
      omega
  exact key _ n (Nat.le_refl _)
theorem kids_len : ∀ ks : List Nd, ks.length ≤ ndSizes ks
  | [] => Nat.le_refl _
  | k :: ks => by
    rw [ndSizes, List.length_cons, ndSize_eq]
    have := kids_len ks
    omega
theorem deeps_le : ∀ ks : List Nd, (∀ x ∈ ks, ndDeep x ≤ ndSize x) → ndDeeps ks ≤ ndSizes ks
  | [], _ => Nat.le_refl _
  | k :: ks, h => by
    rw [ndDeeps, ndSizes]
    have h1 := h k (.head _)
    have h2 := deeps_le ks (fun x hx => h x (.tail _ hx))
    omega
theorem deep_le (n : Nd) : ndDeep n ≤ ndSize n := by
  induction n using Nd.ind with
  | h n ih =>
    rw [ndDeep_eq, ndSize_eq]
    have := deeps_le n.kids ih
    omega
/- at most so deep. -/
mutual
def shal : Nat → Nd → Bool
  | 0, _ => false
  | l + 1, .mk _ _ ks _ _ => shals l ks
def shals : Nat → List Nd → Bool
  | _, [] => true
  | l, k :: ks => shal l k && shals l ks
end
theorem shal_succ (l : Nat) (n : Nd) : shal (l + 1) n = shals l n.kids := by cases n; rw [shal]; rfl
theorem shal_zero (n : Nd) : shal 0 n = false := by cases n; rw [shal]
theorem shals_all (l : Nat) : ∀ ks : List Nd, shals l ks = ks.all (shal l)
  | [] => by rw [shals]; rfl
  | k :: ks => by rw [shals, List.all_cons, shals_all l ks]
/- the same, but for places. -/
mutual
def sameNd : Nd → Nd → Bool
  | .mk k t ks _ _, b => decide (k = b.kind) && decide (t = b.text) && decide (ks.length = b.kids.length) && sameNds ks b.kids
def sameNds : List Nd → List Nd → Bool
  | [], _ => true
  | _ :: _, [] => true
  | a :: xs, b :: ys => sameNd a b && sameNds xs ys
end
theorem sameNd_eq (a b : Nd) : sameNd a b = (decide (a.kind = b.kind) && decide (a.text = b.text) && decide (a.kids.length = b.kids.length) && sameNds a.kids b.kids) := by cases a; rw [sameNd]; rfl
theorem sameNds_get : ∀ {xs ys : List Nd}, xs.length = ys.length → (sameNds xs ys = true ↔ ∀ i, (h : i < xs.length) → (h2 : i < ys.length) → sameNd xs[i] ys[i] = true)
  | [], [], _ => by simp [sameNds]
  | [], _ :: _, h => by simp at h
  | _ :: _, [], h => by simp at h
  | a :: xs, b :: ys, h => by
    simp only [List.length_cons, Nat.add_right_cancel_iff] at h
    rw [sameNds, Bool.and_eq_true, sameNds_get h]
    constructor
    · rintro ⟨h1, h2⟩ i hi hj
      cases i with
      | zero => exact h1
      | succ i => exact h2 i (by simpa using hi) (by simpa using hj)
    · intro h3
      exact ⟨h3 0 (by simp) (by simp), fun i hi hj => h3 (i + 1) (by simpa using hi) (by simpa using hj)⟩
theorem sameNd_iff (a b : Nd) : sameNd a b = true ↔ a.kind = b.kind ∧ a.text = b.text ∧ a.kids.length = b.kids.length ∧ ∀ i, (h : i < a.kids.length) → (h2 : i < b.kids.length) → sameNd a.kids[i] b.kids[i] = true := by
  rw [sameNd_eq]
  simp only [Bool.and_eq_true, decide_eq_true_eq]
  constructor
  · rintro ⟨⟨⟨h1, h2⟩, h3⟩, h4⟩
    exact ⟨h1, h2, h3, (sameNds_get h3).1 h4⟩
  · rintro ⟨h1, h2, h3, h4⟩
    exact ⟨⟨⟨h1, h2⟩, h3⟩, (sameNds_get h3).2 h4⟩
theorem sameNd_refl (a : Nd) : sameNd a a = true := by
  induction a using Nd.ind with
  | h n ih => exact (sameNd_iff n n).2 ⟨rfl, rfl, rfl, fun i h _ => ih _ (List.getElem_mem h)⟩
theorem sameNd_symm_true (a : Nd) : ∀ b, sameNd a b = true → sameNd b a = true := by
  induction a using Nd.ind with
  | h n ih =>
    intro b h
    obtain ⟨h1, h2, h3, h4⟩ := (sameNd_iff n b).1 h
    exact (sameNd_iff b n).2 ⟨h1.symm, h2.symm, h3.symm, fun i hi hj => ih _ (List.getElem_mem hj) _ (h4 i hj hi)⟩
theorem sameNd_symm (a b : Nd) : sameNd a b = sameNd b a := by
  rw [Bool.eq_iff_iff]
  exact ⟨sameNd_symm_true a b, sameNd_symm_true b a⟩
/- without Parens and places. -/
mutual
def bareNd : Nd → Nd
  | .mk k t ks _ _ => if k = 26 then bareFst ks else .mk k t (bareNds ks) 0 0
def bareFst : List Nd → Nd
  | [] => .zero
  | k :: _ => bareNd k
def bareNds : List Nd → List Nd
  | [] => []
  | k :: ks => bareNd k :: bareNds ks
end
theorem bareNds_map : ∀ ks : List Nd, bareNds ks = ks.map bareNd
  | [] => by rw [bareNds]; rfl
  | k :: ks => by rw [bareNds, List.map_cons, bareNds_map ks]
theorem bareNd_eq (n : Nd) : bareNd n = if n.kind = 26 then bareFst n.kids else .mk n.kind n.text (n.kids.map bareNd) 0 0 := by
  cases n
  rw [bareNd, ← bareNds_map]
  rfl
/-- a node's five cells. -/
def ndCells (k : Int) (t : ByteArray) (b : Option Addr) (n cap : Nat) (f u : Int) : Array Value := #[.int .i64 k, .string t, .slice b n cap, .int .i64 f, .int .i64 u]
/- a node lies at a place; its kids lie in blocks from L up to B. -/
mutual
def NdC (w : World) (L B : Nat) : Nd → Nat → Nat → Prop
  | .mk k t ks f u, g, o => ∃ b cap, L ≤ g ∧ g < B ∧ w.cell? ⟨g, o, none⟩ = some (.int .i64 k) ∧ w.cell? ⟨g, o + 1, none⟩ = some (.string t) ∧
      w.cell? ⟨g, o + 2, none⟩ = some (.slice b ks.length cap) ∧ w.cell? ⟨g, o + 3, none⟩ = some (.int .i64 f) ∧ w.cell? ⟨g, o + 4, none⟩ = some (.int .i64 u) ∧ ks.length ≤ cap ∧ RowP w L B ks b 0
def RowP (w : World) (L B : Nat) : List Nd → Option Addr → Nat → Prop
  | [], _, _ => True
  | k :: ks, a, i => (∃ g off, a = some ⟨g, off, none⟩ ∧ NdC w L B k g (off + i * 5)) ∧ RowP w L B ks a (i + 1)
end
theorem NdC_eq (w : World) (L B : Nat) (n : Nd) (g o : Nat) : NdC w L B n g o = ∃ b cap, L ≤ g ∧ g < B ∧ w.cell? ⟨g, o, none⟩ = some (.int .i64 n.kind) ∧ w.cell? ⟨g, o + 1, none⟩ = some (.string n.text) ∧
      w.cell? ⟨g, o + 2, none⟩ = some (.slice b n.kids.length cap) ∧ w.cell? ⟨g, o + 3, none⟩ = some (.int .i64 n.from') ∧ w.cell? ⟨g, o + 4, none⟩ = some (.int .i64 n.till) ∧ n.kids.length ≤ cap ∧ RowP w L B n.kids b 0 := by
  cases n
  rw [NdC]
  rfl
theorem RowP_get {w : World} {L B : Nat} {a : Option Addr} : ∀ {ks : List Nd} {i : Nat}, RowP w L B ks a i → ∀ j, (h : j < ks.length) → ∃ g off, a = some ⟨g, off, none⟩ ∧ NdC w L B ks[j] g (off + (i + j) * 5)
  | [], _, _, j, h => absurd h (by simp)
  | k :: ks, i, hr, j, h => by
    rw [RowP] at hr
    cases j with
    | zero => exact hr.1
    | succ j =>
      have := RowP_get hr.2 j (by simpa using h)
      rw [show i + 1 + j = i + (j + 1) by omega] at this
      exact this
theorem RowP_of {w : World} {L B : Nat} {a : Option Addr} : ∀ {ks : List Nd} {i : Nat}, (∀ j, (h : j < ks.length) → ∃ g off, a = some ⟨g, off, none⟩ ∧ NdC w L B ks[j] g (off + (i + j) * 5)) → RowP w L B ks a i
  | [], _, _ => by rw [RowP]; trivial
  | k :: ks, i, h => by
    rw [RowP]
    refine ⟨h 0 (by simp), RowP_of fun j hj => ?_⟩
    have := h (j + 1) (by simpa using hj)
    rw [show i + 1 + j = i + (j + 1) by omega]
    exact this
theorem NdC_keep {w w' : World} {L B L' B' : Nat} (hL : L' ≤ L) (hB : B ≤ B') (hk : ∀ k, L ≤ k → k < B → w'.heap[k]? = w.heap[k]?) (n : Nd) : ∀ g o, NdC w L B n g o → NdC w' L' B' n g o := by
  induction n using Nd.ind with
  | h n ih =>
    intro g o h
    rw [NdC_eq] at h ⊢
    obtain ⟨b, cap, h2, h3, c0, c1, c2, c3, c4, hc, hr⟩ := h
    have hcell : ∀ o, w'.cell? ⟨g, o, none⟩ = w.cell? ⟨g, o, none⟩ := fun o => World.cell?_of_block (hk g h2 h3)
    refine ⟨b, cap, by omega, by omega, ?_, ?_, ?_, ?_, ?_, hc, RowP_of fun j hj => ?_⟩
    · rw [hcell]; exact c0
    · rw [hcell]; exact c1
    · rw [hcell]; exact c2
    · rw [hcell]; exact c3
    · rw [hcell]; exact c4
    · obtain ⟨g', off, ha, hn⟩ := RowP_get hr j hj
      exact ⟨g', off, ha, ih _ (List.getElem_mem hj) _ _ hn⟩
theorem RowP_keep {w w' : World} {L B L' B' : Nat} (hL : L' ≤ L) (hB : B ≤ B') (hk : ∀ k, L ≤ k → k < B → w'.heap[k]? = w.heap[k]?) {ks : List Nd} {a : Option Addr} {i : Nat} (h : RowP w L B ks a i) : RowP w' L' B' ks a i :=
  RowP_of fun j hj => by
    obtain ⟨g, off, ha, hn⟩ := RowP_get h j hj
    exact ⟨g, off, ha, NdC_keep hL hB hk _ _ _ hn⟩
theorem NdC_bel {w w' : World} {L B : Nat} {n : Nd} {g o : Nat} (h : NdC w L B n g o) (hb : Below B w w') : NdC w' L B n g o := NdC_keep (Nat.le_refl _) (Nat.le_refl _) (fun k _ hk => hb.block k hk) _ _ _ h
theorem RowP_bel {w w' : World} {L B : Nat} {ks : List Nd} {a : Option Addr} {i : Nat} (h : RowP w L B ks a i) (hb : Below B w w') : RowP w' L B ks a i := RowP_keep (Nat.le_refl _) (Nat.le_refl _) (fun k _ hk => hb.block k hk) h
/-- a node's value. -/
def NdV (w : World) (L B : Nat) (n : Nd) (v : Value) : Prop := ∃ b cap, v = .agg (ndCells n.kind n.text b n.kids.length cap n.from' n.till) ∧ n.kids.length ≤ cap ∧ RowP w L B n.kids b 0
theorem NdV_bel {w w' : World} {L B : Nat} {n : Nd} {v : Value} (h : NdV w L B n v) (hb : Below B w w') : NdV w' L B n v := by
  obtain ⟨b, cap, h1, h2, h3⟩ := h
  exact ⟨b, cap, h1, h2, RowP_bel h3 hb⟩
/-- a node in a block of its own. -/
def NdBox (w : World) (p : Nat) (k : Int) (t : ByteArray) (b : Option Addr) (n cap : Nat) (f u : Int) : Prop := w.heap[p]? = some (.cells (ndCells k t b n cap f u) 24 (0, 0))
theorem NdBox.lt {w : World} {p : Nat} {k : Int} {t : ByteArray} {b : Option Addr} {n cap : Nat} {f u : Int} (h : NdBox w p k t b n cap f u) : p < w.heap.size := (Array.getElem?_eq_some_iff.1 h).1
theorem NdBox.bel {w w' : World} {B p : Nat} {k : Int} {t : ByteArray} {b : Option Addr} {n cap : Nat} {f u : Int} (h : NdBox w p k t b n cap f u) (hb : Below B w w') (hp : p < B) : NdBox w' p k t b n cap f u := (hb.block p hp).trans h
theorem NdBox.facts {w : World} {p : Nat} {k : Int} {t : ByteArray} {b : Option Addr} {n cap : Nat} {f u : Int} (h : NdBox w p k t b n cap f u) :
    w.cell? ⟨p, 0, none⟩ = some (.int .i64 k) ∧ w.cell? ⟨p, 1, none⟩ = some (.string t) ∧ w.cell? ⟨p, 2, none⟩ = some (.slice b n cap) ∧ w.cell? ⟨p, 3, none⟩ = some (.int .i64 f) ∧ w.cell? ⟨p, 4, none⟩ = some (.int .i64 u) ∧
    w.frozen? ⟨p, 0, none⟩ = false ∧ w.frozen? ⟨p, 1, none⟩ = false ∧ w.frozen? ⟨p, 2, none⟩ = false ∧ w.frozen? ⟨p, 3, none⟩ = false ∧ w.frozen? ⟨p, 4, none⟩ = false := by
  have hc := fun o => cell_of_row w p o _ _ (0, 0) h
  have hf := fun o => frozen_of_row w p o _ _ h
  exact ⟨hc 0, hc 1, hc 2, hc 3, hc 4, hf 0, hf 1, hf 2, hf 3, hf 4⟩
/- the depths, in preorder. -/
mutual
def preD : Nat → Nd → List Nat
  | d, .mk _ _ ks _ _ => d :: preDs (d + 1) ks
def preDs : Nat → List Nd → List Nat
  | _, [] => []
  | d, k :: ks => preD d k ++ preDs d ks
end
theorem preD_eq (d : Nat) (n : Nd) : preD d n = d :: preDs (d + 1) n.kids := by cases n; rw [preD]; rfl
theorem preDs_len (d : Nat) : ∀ ks : List Nd, (∀ x ∈ ks, (preD d x).length = ndSize x) → (preDs d ks).length = ndSizes ks
  | [], _ => by rw [preDs, ndSizes]; rfl
  | k :: ks, h => by rw [preDs, ndSizes, List.length_append, h k (.head _), preDs_len d ks (fun x hx => h x (.tail _ hx))]
theorem preD_len (n : Nd) : ∀ d, (preD d n).length = ndSize n := by
  induction n using Nd.ind with
  | h n ih =>
    intro d
    rw [preD_eq, ndSize_eq, List.length_cons, preDs_len (d + 1) n.kids (fun x hx => ih x hx (d + 1))]
    omega
theorem foldl_max (l : List Nat) : ∀ a, l.foldl max a = max a (l.foldl max 0) := by
  induction l with
  | nil => intro a; simp
  | cons x l ih =>
    intro a
    rw [List.foldl_cons, List.foldl_cons, ih (max a x), ih (max 0 x)]
    omega
theorem preDs_max (d : Nat) : ∀ ks : List Nd, (∀ x ∈ ks, (preD d x).foldl max 0 = d + ndDeep x - 1) → (preDs d ks).foldl max 0 = if ks = [] then 0 else d + ndDeeps ks - 1
  | [], _ => by rw [preDs]; rfl
  | k :: ks, h => by
    rw [preDs, ndDeeps, List.foldl_append, h k (.head _), foldl_max, preDs_max d ks (fun x hx => h x (.tail _ hx)), if_neg (show ¬ (k :: ks = []) by simp)]
    have h1 : 1 ≤ ndDeep k := by rw [ndDeep_eq]; omega
    split
    · rename_i e
      rw [e, ndDeeps]
      omega
    · omega
theorem preD_max (n : Nd) : ∀ d, (preD d n).foldl max 0 = d + ndDeep n - 1 := by
  induction n using Nd.ind with
  | h n ih =>
    intro d
    rw [preD_eq, ndDeep_eq, List.foldl_cons, foldl_max, preDs_max (d + 1) n.kids (fun x hx => ih x hx (d + 1))]
    split
    · rename_i e
      rw [e, ndDeeps]
      omega
    · omega
end Go.Proofs.YteejjkfmmhegmaaGreatDoor
namespace Go.Proofs.YteejjkfmmhegmaaGreatDoor
open Go.RowKit

/-- a kid's cells, and what it leads to. -/
theorem RowP_cells {w : World} {L B : Nat} {a : Option Addr} {ks : List Nd} (h : RowP w L B ks a 0) (j : Nat) (hj : j < ks.length) :
    ∃ g off b cap, a = some ⟨g, off, none⟩ ∧ g < B ∧ w.cell? ⟨g, off + j * 5, none⟩ = some (.int .i64 ks[j].kind) ∧ w.cell? ⟨g, off + j * 5 + 1, none⟩ = some (.string ks[j].text) ∧
      w.cell? ⟨g, off + j * 5 + 2, none⟩ = some (.slice b ks[j].kids.length cap) ∧ w.cell? ⟨g, off + j * 5 + 3, none⟩ = some (.int .i64 ks[j].from') ∧ w.cell? ⟨g, off + j * 5 + 4, none⟩ = some (.int .i64 ks[j].till) ∧
      NdV w L B ks[j] (.agg #[.int .i64 ks[j].kind, .string ks[j].text, .slice b ks[j].kids.length cap, .int .i64 ks[j].from', .int .i64 ks[j].till]) := by
  obtain ⟨g, off, ha, hn⟩ := RowP_get h j hj
  rw [Nat.zero_add, NdC_eq] at hn
  obtain ⟨b, cap, _, h3, c0, c1, c2, c3, c4, hc, hr⟩ := hn
  exact ⟨g, off, b, cap, ha, h3, c0, c1, c2, c3, c4, b, cap, rfl, hc, hr⟩
theorem kid_size {n : Nd} {j : Nat} (h : j < n.kids.length) : ndSize n.kids[j] < ndSize n := by
  have := ndSizes_mem (List.getElem_mem h)
  rw [ndSize_eq n]
  omega
theorem kid_count (n : Nd) : n.kids.length < ndSize n := by
  have := kids_len n.kids
  rw [ndSize_eq n]
  omega
theorem all_get {p : Nd → Bool} {ks : List Nd} (h : ∀ j, (hj : j < ks.length) → p ks[j] = true) : ks.all p = true := by
  rw [List.all_eq_true]
  intro x hx
  obtain ⟨j, hj, rfl⟩ := List.getElem_of_mem hx
  exact h j hj
theorem all_not {p : Nd → Bool} {ks : List Nd} {j : Nat} (hj : j < ks.length) (h : p ks[j] = false) : ks.all p = false := by
  rw [Bool.eq_false_iff]
  intro h2
  rw [List.all_eq_true] at h2
  rw [h2 _ (List.getElem_mem hj)] at h
  cases h
/-- a function under way that has boxed its node, and leaves all old blocks alone. -/
structure NSt (w0 : World) (p L B : Nat) (n : Nd) (b : Option Addr) (cap : Nat) (wr : World) : Prop where
  box : NdBox wr p n.kind n.text b n.kids.length cap n.from' n.till
  row : RowP wr L B n.kids b 0
  bel : Below w0.heap.size w0 wr
  hp : w0.heap.size ≤ p
  hB : B ≤ w0.heap.size
theorem NSt.bel' {w0 wr w' : World} {p L B : Nat} {n : Nd} {b : Option Addr} {cap : Nat} (h : NSt w0 p L B n b cap wr) (hb : Below wr.heap.size wr w') : NSt w0 p L B n b cap w' :=
  ⟨h.box.bel hb h.box.lt, RowP_bel h.row (hb.mono (Nat.le_trans h.hB h.bel.size)), bel_next h.bel hb, h.hp, h.hB⟩
theorem NSt.new {w : World} {L B : Nat} {n : Nd} {b : Option Addr} {cap : Nat} (hr : RowP w L B n.kids b 0) (hB : B ≤ w.heap.size) :
    NSt w w.heap.size L B n b cap (w.alloc (.cells #[.int .i64 n.kind, .string n.text, .slice b n.kids.length cap, .int .i64 n.from', .int .i64 n.till] 24)) :=
  ⟨heap_alloc_new _ _, RowP_bel hr ((Below.alloc (Below.refl _ w) (Nat.le_refl _) _).mono hB), Below.alloc (Below.refl _ w) (Nat.le_refl _) _, Nat.le_refl _, hB⟩
set_option maxRecDepth 20000 in
set_option maxHeartbeats 2000000 in
theorem shallow_any (n : Nd) : ∀ (left : Nat) (z : Int) (v : Value) (w : World) (L B : Nat), z = left → left ≤ 16384 → NdV w L B n v → B ≤ w.heap.size → ndSize n ≤ 4194304 →
    Calls Tryz.prog 23 #[v, .int .i64 z] w fun e w' => e = .returned (.bool (shal left n)) ∧ Below w.heap.size w w' := by
  induction n using Nd.ind with
  | h n ih =>
    intro left z v w L B hz hl hv hB hsz
    obtain ⟨b, cap, rfl, hcap, hrow⟩ := hv
    unfold ndCells
    cases left with
    | zero =>
      subst hz
      have HS := Lib.hid (shal_zero n)
      clear ih
      go_enter Tryz.func23, Tryz.ntmps23
      go_wp2_with fail
      go_ret
      exact ⟨by rw [HS.out]; rfl, (Below.refl _ _).alloc (Nat.le_refl _) _⟩
    | succ l =>
      have hz0 : (z == 0) = false := by rw [beq_eq_false_iff_ne]; omega
      obtain ⟨hzr1, hzr2⟩ : 0 < z ∧ z ≤ 16384 := by omega
      have hkc := kid_count n
      have HS := Lib.hid (show shal (l + 1) n = n.kids.all (shal l) by rw [shal_succ, shals_all])
      have HIH := Lib.hid (fun (W : World) (j : Nat) (hj : j < n.kids.length) (u : Value) (hu : NdV W L B n.kids[j] u) (hW : B ≤ W.heap.size) => ih _ (List.getElem_mem hj) l (z - 1) u W L B (by omega) (by omega) hu hW (by have := kid_size hj; omega))
      have HST := Lib.hid (NSt.new (cap := cap) hrow hB)
      clear hrow ih hz
      go_enter Tryz.func23, Tryz.ntmps23
      go_upto_region 3 with fail
      generalize World.alloc w _ = w1 at *
      generalize hp : w.heap.size = p at HST
      have HP := Lib.hid hp
      clear hp
      obtain ⟨d0, d1, d2, d3, d4, g0, g1, g2, g3, g4⟩ := NdBox.facts HST.out.box
      go_wp2_with fail
      clear d0 d1 d2 d3 d4 g0 g1 g2 g3 g4
      have HOLD := Lib.hid (show ∀ j, (hj : j < n.kids.length) → j < 0 → shal l n.kids[j] = true from fun _ _ h => absurd h (Nat.not_lt_zero _))
      go_loopw [5] (fun i wr => ∃ k : Nat, k ≤ n.kids.length ∧ i = .int .i64 k ∧ NSt w p L B n b cap wr ∧ Hid (∀ j, (hj : j < n.kids.length) → j < k → shal l n.kids[j] = true)) (fun i _ => n.kids.length - (intOf i).toNat)
      case atStart => exact ⟨0, Nat.zero_le _, rfl, HST.out, HOLD⟩
      case round =>
        clear HST HOLD
        obtain ⟨k, hk, rfl, hst, hold⟩ := hrel
        have HST := Lib.hid hst
        obtain ⟨d0, d1, d2, d3, d4, g0, g1, g2, g3, g4⟩ := NdBox.facts hst.box
        by_cases hlt : k < n.kids.length
        · obtain ⟨g, off, b', cap', rfl, hgB, c0, c1, c2, c3, c4, hkv⟩ := RowP_cells hst.row k hlt
          have hcall := HIH.out wr k hlt _ hkv (Nat.le_trans hst.hB hst.bel.size)
          generalize hkid : n.kids[k] = x at *
          have HX := Lib.hid hkid
          clear hst hkid hkv
          cases hsx : shal l x with
          | true =>
            rw [hsx] at hcall
            have HCALL := Lib.hid hcall
            have HSX := Lib.hid hsx
            clear hcall hsx
            go_wp2_with (go_at_call 23; refine HCALL.out.mono ?_; rintro e w2 ⟨rfl, hb2⟩)
            go_roundw
            case rel => exact ⟨k + 1, hlt, by go_num, HST.out.bel' hb2, Lib.hid (fun j hj hjk => by
              rcases Nat.lt_succ_iff_lt_or_eq.1 hjk with h | rfl
              · exact hold.out j hj h
              · rw [HX.out]; exact HSX.out)⟩
            case measure => simp [intOf]; omega
          | false =>
            rw [hsx] at hcall
            have HCALL := Lib.hid hcall
            have HSX := Lib.hid hsx
            clear hcall hsx
            go_wp2_with (go_at_call 23; refine HCALL.out.mono ?_; rintro e w2 ⟨rfl, hb2⟩)
            go_ret
            exact ⟨by rw [HS.out, all_not hlt (by rw [HX.out]; exact HSX.out)]; rfl, (HST.out.bel' hb2).bel⟩
        · obtain rfl : k = n.kids.length := by omega
          go_wp2_with fail
          go_ret
          exact ⟨by rw [HS.out, all_get (fun j hj => hold.out j hj hj)]; rfl, HST.out.bel⟩
end Go.Proofs.YteejjkfmmhegmaaGreatDoor
namespace Go.Proofs.YteejjkfmmhegmaaGreatDoor
open Go.RowKit

/-- two nodes boxed. -/
structure NSt2 (w0 : World) (p q L B : Nat) (a : Nd) (b : Option Addr) (cap : Nat) (c : Nd) (d : Option Addr) (cap2 : Nat) (wr : World) : Prop where
  box : NdBox wr p a.kind a.text b a.kids.length cap a.from' a.till
  box2 : NdBox wr q c.kind c.text d c.kids.length cap2 c.from' c.till
  row : RowP wr L B a.kids b 0
  row2 : RowP wr L B c.kids d 0
  bel : Below w0.heap.size w0 wr
  hB : B ≤ w0.heap.size
theorem NSt2.bel' {w0 wr w' : World} {p q L B : Nat} {a : Nd} {b : Option Addr} {cap : Nat} {c : Nd} {d : Option Addr} {cap2 : Nat} (h : NSt2 w0 p q L B a b cap c d cap2 wr) (hb : Below wr.heap.size wr w') : NSt2 w0 p q L B a b cap c d cap2 w' :=
  ⟨h.box.bel hb h.box.lt, h.box2.bel hb h.box2.lt, RowP_bel h.row (hb.mono (Nat.le_trans h.hB h.bel.size)), RowP_bel h.row2 (hb.mono (Nat.le_trans h.hB h.bel.size)), bel_next h.bel hb, h.hB⟩
theorem NSt2.new {w : World} {L B : Nat} {a : Nd} {b : Option Addr} {cap : Nat} {c : Nd} {d : Option Addr} {cap2 : Nat} (hr : RowP w L B a.kids b 0) (hr2 : RowP w L B c.kids d 0) (hB : B ≤ w.heap.size) :
    NSt2 w w.heap.size (w.heap.size + 1) L B a b cap c d cap2 ((w.alloc (.cells #[.int .i64 a.kind, .string a.text, .slice b a.kids.length cap, .int .i64 a.from', .int .i64 a.till] 24)).alloc (.cells #[.int .i64 c.kind, .string c.text, .slice d c.kids.length cap2, .int .i64 c.from', .int .i64 c.till] 24)) := by
  have h1 := Below.alloc (Below.refl _ w) (Nat.le_refl _) (.cells #[.int .i64 a.kind, .string a.text, .slice b a.kids.length cap, .int .i64 a.from', .int .i64 a.till] 24)
  have h2 := bel_alloc h1 (.cells #[.int .i64 c.kind, .string c.text, .slice d c.kids.length cap2, .int .i64 c.from', .int .i64 c.till] 24)
  have b2 := heap_alloc_new (w.alloc (.cells #[.int .i64 a.kind, .string a.text, .slice b a.kids.length cap, .int .i64 a.from', .int .i64 a.till] 24)) (.cells #[.int .i64 c.kind, .string c.text, .slice d c.kids.length cap2, .int .i64 c.from', .int .i64 c.till] 24)
  rw [World.size_alloc] at b2
  refine ⟨?_, b2, RowP_bel hr (h2.mono hB), RowP_bel hr2 (h2.mono hB), h2, hB⟩
  exact (Below.heap_alloc _ _ _ (by rw [World.size_alloc]; omega)).trans (heap_alloc_new _ _)
theorem text_ne {a b : ByteArray} (h : a ≠ b) : (a.toList == b.toList) = false := by
  rw [beq_eq_false_iff_ne]
  intro e
  rw [Lib.toList_data, Lib.toList_data] at e
  exact h (ba_ext e)
theorem sameNd_no {a b : Nd} (h : ¬ (a.kind = b.kind ∧ a.text = b.text ∧ a.kids.length = b.kids.length)) : sameNd a b = false := by
  rw [Bool.eq_false_iff]
  intro e
  obtain ⟨h1, h2, h3, _⟩ := (sameNd_iff a b).1 e
  exact h ⟨h1, h2, h3⟩
theorem sameNd_kid {a b : Nd} (j : Nat) (h1 : j < a.kids.length) (h2 : j < b.kids.length) (h : sameNd a.kids[j] b.kids[j] = false) : sameNd a b = false := by
  rw [Bool.eq_false_iff]
  intro e
  obtain ⟨_, _, _, h4⟩ := (sameNd_iff a b).1 e
  rw [h4 j h1 h2] at h
  cases h
set_option maxRecDepth 20000 in
set_option maxHeartbeats 4000000 in
theorem same_any (a : Nd) : ∀ (c : Nd) (v u : Value) (w : World) (L B : Nat), NdV w L B a v → NdV w L B c u → B ≤ w.heap.size → ndSize a ≤ 4194304 →
    Calls Tryz.prog 9 #[v, u] w fun e w' => e = .returned (.bool (sameNd a c)) ∧ Below w.heap.size w w' := by
  induction a using Nd.ind with
  | h a ih =>
    intro c v u w L B hv hu hB hsz
    obtain ⟨b, cap, rfl, hcap, hrow⟩ := hv
    obtain ⟨d, cap2, rfl, hcap2, hrow2⟩ := hu
    unfold ndCells
    have hkc := kid_count a
    have HIH := Lib.hid (fun (W : World) (j : Nat) (hj : j < a.kids.length) (y : Nd) (v u : Value) (hu : NdV W L B a.kids[j] v) (hy : NdV W L B y u) (hW : B ≤ W.heap.size) => ih _ (List.getElem_mem hj) y v u W L B hu hy hW (by have := kid_size hj; omega))
    have HST := Lib.hid (NSt2.new (cap := cap) (cap2 := cap2) hrow hrow2 hB)
    clear hrow hrow2 ih
    by_cases hk : a.kind = c.kind
    · by_cases ht : a.text = c.text
      · by_cases hn : a.kids.length = c.kids.length
        · have e1 : (a.kind != c.kind) = false := by rw [bne_eq_false_iff_eq]; exact hk
          have e2 : (a.text.toList == c.text.toList) = true := by rw [ht]; exact beq_self_eq_true _
          have e3 : (((a.kids.length : Nat) : Int) != ((c.kids.length : Nat) : Int)) = false := by rw [bne_eq_false_iff_eq]; omega
          have HE := Lib.hid (⟨hk, ht, hn⟩ : a.kind = c.kind ∧ a.text = c.text ∧ a.kids.length = c.kids.length)
          have hn1 : a.kids.length ≤ c.kids.length := by omega
          have hn2 : c.kids.length ≤ a.kids.length := by omega
          clear hk ht hn
          go_enter Tryz.func9, Tryz.ntmps9
          go_upto_region 1 with fail
          generalize World.alloc (World.alloc w _) _ = w1 at *
          generalize hp : w.heap.size = p at HST
          generalize hq : p + 1 = q at HST
          have HP := Lib.hid hp
          have HQ := Lib.hid hq
          clear hp hq
          obtain ⟨d0, d1, d2, d3, d4, g0, g1, g2, g3, g4⟩ := NdBox.facts HST.out.box
          obtain ⟨x0, x1, x2, x3, x4, y0, y1, y2, y3, y4⟩ := NdBox.facts HST.out.box2
          go_wp2_with fail
          clear d0 d1 d2 d3 d4 g0 g1 g2 g3 g4 x0 x1 x2 x3 x4 y0 y1 y2 y3 y4
          have HOLD := Lib.hid (show ∀ j, (hj : j < a.kids.length) → (hj2 : j < c.kids.length) → j < 0 → sameNd a.kids[j] c.kids[j] = true from fun _ _ _ h => absurd h (Nat.not_lt_zero _))
          go_loopw [30] (fun i wr => ∃ k : Nat, k ≤ a.kids.length ∧ i = .int .i64 k ∧ NSt2 w p q L B a b cap c d cap2 wr ∧ Hid (∀ j, (hj : j < a.kids.length) → (hj2 : j < c.kids.length) → j < k → sameNd a.kids[j] c.kids[j] = true)) (fun i _ => a.kids.length - (intOf i).toNat)
          case atStart => exact ⟨0, Nat.zero_le _, rfl, HST.out, HOLD⟩
          case round =>
            clear HST HOLD
            obtain ⟨k, hkl, rfl, hst, hold⟩ := hrel
            have HST := Lib.hid hst
            obtain ⟨d0, d1, d2, d3, d4, g0, g1, g2, g3, g4⟩ := NdBox.facts hst.box
            obtain ⟨x0, x1, x2, x3, x4, y0, y1, y2, y3, y4⟩ := NdBox.facts hst.box2
            by_cases hlt : k < a.kids.length
            · have hlt2 : k < c.kids.length := by omega
              obtain ⟨g, off, b', cap', rfl, hgB, c0, c1, c2, c3, c4, hkv⟩ := RowP_cells hst.row k hlt
              obtain ⟨g', off', d', cap2', rfl, hgB', z0, z1, z2, z3, z4, hkv2⟩ := RowP_cells hst.row2 k hlt2
              have hcall := HIH.out wr.drew k hlt _ _ _ (NdV_bel hkv (Below.drew (Below.refl _ _))) (NdV_bel hkv2 (Below.drew (Below.refl _ _))) (Nat.le_trans hst.hB hst.bel.size)
              generalize hkid : a.kids[k] = x at *
              generalize hkid2 : c.kids[k] = y at *
              have HX := Lib.hid hkid
              have HY := Lib.hid hkid2
              have hdr : Below wr.heap.size wr wr.drew := Below.drew (Below.refl _ _)
              clear hst hkid hkid2 hkv hkv2
              cases hsx : sameNd x y with
              | true =>
                rw [hsx] at hcall
                have HCALL := Lib.hid hcall
                have HSX := Lib.hid hsx
                clear hcall hsx
                go_upto_region 6 with fail
                go_still_tail 10, (by kernel_rfl)
                change wpList _ _ _ _ _ wr.drew
                go_wp2_with (go_at_call 9; refine HCALL.out.mono ?_; rintro e w2 ⟨rfl, hb2⟩)
                go_roundw
                case rel => exact ⟨k + 1, hlt, by go_num, HST.out.bel' (hdr.trans hb2), Lib.hid (fun j hj hj2 hjk => by
                  rcases Nat.lt_succ_iff_lt_or_eq.1 hjk with h | rfl
                  · exact hold.out j hj hj2 h
                  · rw [HX.out, HY.out]; exact HSX.out)⟩
                case measure => simp [intOf]; omega
              | false =>
                rw [hsx] at hcall
                have HCALL := Lib.hid hcall
                have HSX := Lib.hid hsx
                clear hcall hsx
                go_upto_region 6 with fail
                go_still_tail 10, (by kernel_rfl)
                change wpList _ _ _ _ _ wr.drew
                go_wp2_with (go_at_call 9; refine HCALL.out.mono ?_; rintro e w2 ⟨rfl, hb2⟩)
                go_ret
                exact ⟨by rw [sameNd_kid k hlt hlt2 (by rw [HX.out, HY.out]; exact HSX.out)]; rfl, (HST.out.bel' (hdr.trans hb2)).bel⟩
            · obtain rfl : k = a.kids.length := by omega
              go_wp2_with fail
              go_ret
              exact ⟨by rw [(sameNd_iff a c).2 ⟨HE.out.1, HE.out.2.1, HE.out.2.2, fun j h h2 => hold.out j h h2 h⟩]; rfl, HST.out.bel⟩
        · have e1 : (a.kind != c.kind) = false := by rw [bne_eq_false_iff_eq]; exact hk
          have e2 : (a.text.toList == c.text.toList) = true := by rw [ht]; exact beq_self_eq_true _
          have e3 : (((a.kids.length : Nat) : Int) != ((c.kids.length : Nat) : Int)) = true := by rw [bne_iff_ne]; omega
          have HS := Lib.hid (sameNd_no (a := a) (b := c) (fun h => hn h.2.2))
          clear hk ht hn
          go_enter Tryz.func9, Tryz.ntmps9
          go_upto_region 1 with fail
          generalize World.alloc (World.alloc w _) _ = w1 at *
          generalize hp : w.heap.size = p at HST
          generalize hq : p + 1 = q at HST
          have HP := Lib.hid hp
          have HQ := Lib.hid hq
          clear hp hq
          obtain ⟨d0, d1, d2, d3, d4, g0, g1, g2, g3, g4⟩ := NdBox.facts HST.out.box
          obtain ⟨x0, x1, x2, x3, x4, y0, y1, y2, y3, y4⟩ := NdBox.facts HST.out.box2
          go_wp2_with fail
          go_ret
          exact ⟨by rw [HS.out]; rfl, HST.out.bel⟩
      · have e1 : (a.kind != c.kind) = false := by rw [bne_eq_false_iff_eq]; exact hk
        have e2 : (a.text.toList == c.text.toList) = false := text_ne ht
        have HS := Lib.hid (sameNd_no (a := a) (b := c) (fun h => ht h.2.1))
        clear hk ht
        go_enter Tryz.func9, Tryz.ntmps9
        go_upto_region 1 with fail
        generalize World.alloc (World.alloc w _) _ = w1 at *
        generalize hp : w.heap.size = p at HST
        generalize hq : p + 1 = q at HST
        have HP := Lib.hid hp
        have HQ := Lib.hid hq
        clear hp hq
        obtain ⟨d0, d1, d2, d3, d4, g0, g1, g2, g3, g4⟩ := NdBox.facts HST.out.box
        obtain ⟨x0, x1, x2, x3, x4, y0, y1, y2, y3, y4⟩ := NdBox.facts HST.out.box2
        go_wp2_with fail
        go_ret
        exact ⟨by rw [HS.out]; rfl, HST.out.bel⟩
    · have e1 : (a.kind != c.kind) = true := by rw [bne_iff_ne]; exact hk
      have HS := Lib.hid (sameNd_no (a := a) (b := c) (fun h => hk h.1))
      clear hk
      go_enter Tryz.func9, Tryz.ntmps9
      go_upto_region 1 with fail
      generalize World.alloc (World.alloc w _) _ = w1 at *
      generalize hp : w.heap.size = p at HST
      generalize hq : p + 1 = q at HST
      have HP := Lib.hid hp
      have HQ := Lib.hid hq
      clear hp hq
      obtain ⟨d0, d1, d2, d3, d4, g0, g1, g2, g3, g4⟩ := NdBox.facts HST.out.box
      obtain ⟨x0, x1, x2, x3, x4, y0, y1, y2, y3, y4⟩ := NdBox.facts HST.out.box2
      go_wp2_with fail
      go_ret
      exact ⟨by rw [HS.out]; rfl, HST.out.bel⟩
set_option maxRecDepth 20000 in
set_option maxHeartbeats 4000000 in
theorem rsame_any (a : Nd) : ∀ (c : Nd) (v u : Value) (w : World) (L B : Nat), NdV w L B a v → NdV w L B c u → B ≤ w.heap.size → ndSize a ≤ 4194304 →
    Calls Tryz.prog 11 #[v, u] w fun e w' => e = .returned (.bool (sameNd a c)) ∧ Below w.heap.size w w' := by
  induction a using Nd.ind with
  | h a ih =>
    intro c v u w L B hv hu hB hsz
    obtain ⟨b, cap, rfl, hcap, hrow⟩ := hv
    obtain ⟨d, cap2, rfl, hcap2, hrow2⟩ := hu
    unfold ndCells
    have hkc := kid_count a
    have HIH := Lib.hid (fun (W : World) (j : Nat) (hj : j < a.kids.length) (y : Nd) (v u : Value) (hu : NdV W L B a.kids[j] v) (hy : NdV W L B y u) (hW : B ≤ W.heap.size) => ih _ (List.getElem_mem hj) y v u W L B hu hy hW (by have := kid_size hj; omega))
    have HST := Lib.hid (NSt2.new (cap := cap) (cap2 := cap2) hrow hrow2 hB)
    clear hrow hrow2 ih
    by_cases hk : a.kind = c.kind
    · by_cases ht : a.text = c.text
      · by_cases hn : a.kids.length = c.kids.length
        · have e1 : (a.kind != c.kind) = false := by rw [bne_eq_false_iff_eq]; exact hk
          have e2 : (a.text.toList == c.text.toList) = true := by rw [ht]; exact beq_self_eq_true _
          have e3 : (((a.kids.length : Nat) : Int) != ((c.kids.length : Nat) : Int)) = false := by rw [bne_eq_false_iff_eq]; omega
          have HE := Lib.hid (⟨hk, ht, hn⟩ : a.kind = c.kind ∧ a.text = c.text ∧ a.kids.length = c.kids.length)
          have hn1 : a.kids.length ≤ c.kids.length := by omega
          have hn2 : c.kids.length ≤ a.kids.length := by omega
          clear hk ht hn
          go_enter Tryz.func11, Tryz.ntmps11
          go_upto_region 1 with fail
          generalize World.alloc (World.alloc w _) _ = w1 at *
          generalize hp : w.heap.size = p at HST
          generalize hq : p + 1 = q at HST
          have HP := Lib.hid hp
          have HQ := Lib.hid hq
          clear hp hq
          obtain ⟨d0, d1, d2, d3, d4, g0, g1, g2, g3, g4⟩ := NdBox.facts HST.out.box
          obtain ⟨x0, x1, x2, x3, x4, y0, y1, y2, y3, y4⟩ := NdBox.facts HST.out.box2
          go_wp2_with fail
          clear d0 d1 d2 d3 d4 g0 g1 g2 g3 g4 x0 x1 x2 x3 x4 y0 y1 y2 y3 y4
          have HOLD := Lib.hid (show ∀ j, (hj : j < a.kids.length) → (hj2 : j < c.kids.length) → j < 0 → sameNd a.kids[j] c.kids[j] = true from fun _ _ _ h => absurd h (Nat.not_lt_zero _))
          go_loopw [5] (fun i wr => ∃ k : Nat, k ≤ a.kids.length ∧ i = .int .i64 k ∧ NSt2 w p q L B a b cap c d cap2 wr ∧ Hid (∀ j, (hj : j < a.kids.length) → (hj2 : j < c.kids.length) → j < k → sameNd a.kids[j] c.kids[j] = true)) (fun i _ => a.kids.length - (intOf i).toNat)
          case atStart => exact ⟨0, Nat.zero_le _, rfl, HST.out, HOLD⟩
          case round =>
            clear HST HOLD
            obtain ⟨k, hkl, rfl, hst, hold⟩ := hrel
            have HST := Lib.hid hst
            obtain ⟨d0, d1, d2, d3, d4, g0, g1, g2, g3, g4⟩ := NdBox.facts hst.box
            obtain ⟨x0, x1, x2, x3, x4, y0, y1, y2, y3, y4⟩ := NdBox.facts hst.box2
            by_cases hlt : k < a.kids.length
            · have hlt2 : k < c.kids.length := by omega
              obtain ⟨g, off, b', cap', rfl, hgB, c0, c1, c2, c3, c4, hkv⟩ := RowP_cells hst.row k hlt
              obtain ⟨g', off', d', cap2', rfl, hgB', z0, z1, z2, z3, z4, hkv2⟩ := RowP_cells hst.row2 k hlt2
              have hcall := HIH.out wr.drew k hlt _ _ _ (NdV_bel hkv (Below.drew (Below.refl _ _))) (NdV_bel hkv2 (Below.drew (Below.refl _ _))) (Nat.le_trans hst.hB hst.bel.size)
              generalize hkid : a.kids[k] = x at *
              generalize hkid2 : c.kids[k] = y at *
              have HX := Lib.hid hkid
              have HY := Lib.hid hkid2
              have hdr : Below wr.heap.size wr wr.drew := Below.drew (Below.refl _ _)
              clear hst hkid hkid2 hkv hkv2
              cases hsx : sameNd x y with
              | true =>
                rw [hsx] at hcall
                have HCALL := Lib.hid hcall
                have HSX := Lib.hid hsx
                clear hcall hsx
                go_upto_region 6 with fail
                go_still_tail 10, (by kernel_rfl)
                change wpList _ _ _ _ _ wr.drew
                go_wp2_with (go_at_call 11; refine HCALL.out.mono ?_; rintro e w2 ⟨rfl, hb2⟩)
                go_roundw
                case rel => exact ⟨k + 1, hlt, by go_num, HST.out.bel' (hdr.trans hb2), Lib.hid (fun j hj hj2 hjk => by
                  rcases Nat.lt_succ_iff_lt_or_eq.1 hjk with h | rfl
                  · exact hold.out j hj hj2 h
                  · rw [HX.out, HY.out]; exact HSX.out)⟩
                case measure => simp [intOf]; omega
              | false =>
                rw [hsx] at hcall
                have HCALL := Lib.hid hcall
                have HSX := Lib.hid hsx
                clear hcall hsx
                go_upto_region 6 with fail
                go_still_tail 10, (by kernel_rfl)
                change wpList _ _ _ _ _ wr.drew
                go_wp2_with (go_at_call 11; refine HCALL.out.mono ?_; rintro e w2 ⟨rfl, hb2⟩)
                go_ret
                exact ⟨by rw [sameNd_kid k hlt hlt2 (by rw [HX.out, HY.out]; exact HSX.out)]; rfl, (HST.out.bel' (hdr.trans hb2)).bel⟩
            · obtain rfl : k = a.kids.length := by omega
              go_wp2_with fail
              go_ret
              exact ⟨by rw [(sameNd_iff a c).2 ⟨HE.out.1, HE.out.2.1, HE.out.2.2, fun j h h2 => hold.out j h h2 h⟩]; rfl, HST.out.bel⟩
        · have e1 : (a.kind != c.kind) = false := by rw [bne_eq_false_iff_eq]; exact hk
          have e2 : (a.text.toList == c.text.toList) = true := by rw [ht]; exact beq_self_eq_true _
          have e3 : (((a.kids.length : Nat) : Int) != ((c.kids.length : Nat) : Int)) = true := by rw [bne_iff_ne]; omega
          have HS := Lib.hid (sameNd_no (a := a) (b := c) (fun h => hn h.2.2))
          clear hk ht hn
          go_enter Tryz.func11, Tryz.ntmps11
          go_upto_region 1 with fail
          generalize World.alloc (World.alloc w _) _ = w1 at *
          generalize hp : w.heap.size = p at HST
          generalize hq : p + 1 = q at HST
          have HP := Lib.hid hp
          have HQ := Lib.hid hq
          clear hp hq
          obtain ⟨d0, d1, d2, d3, d4, g0, g1, g2, g3, g4⟩ := NdBox.facts HST.out.box
          obtain ⟨x0, x1, x2, x3, x4, y0, y1, y2, y3, y4⟩ := NdBox.facts HST.out.box2
          go_wp2_with fail
          go_ret
          exact ⟨by rw [HS.out]; rfl, HST.out.bel⟩
      · have e1 : (a.kind != c.kind) = false := by rw [bne_eq_false_iff_eq]; exact hk
        have e2 : (a.text.toList == c.text.toList) = false := text_ne ht
        have HS := Lib.hid (sameNd_no (a := a) (b := c) (fun h => ht h.2.1))
        clear hk ht
        go_enter Tryz.func11, Tryz.ntmps11
        go_upto_region 1 with fail
        generalize World.alloc (World.alloc w _) _ = w1 at *
        generalize hp : w.heap.size = p at HST
        generalize hq : p + 1 = q at HST
        have HP := Lib.hid hp
        have HQ := Lib.hid hq
        clear hp hq
        obtain ⟨d0, d1, d2, d3, d4, g0, g1, g2, g3, g4⟩ := NdBox.facts HST.out.box
        obtain ⟨x0, x1, x2, x3, x4, y0, y1, y2, y3, y4⟩ := NdBox.facts HST.out.box2
        go_wp2_with fail
        go_ret
        exact ⟨by rw [HS.out]; rfl, HST.out.bel⟩
    · have e1 : (a.kind != c.kind) = true := by rw [bne_iff_ne]; exact hk
      have HS := Lib.hid (sameNd_no (a := a) (b := c) (fun h => hk h.1))
      clear hk
      go_enter Tryz.func11, Tryz.ntmps11
      go_upto_region 1 with fail
      generalize World.alloc (World.alloc w _) _ = w1 at *
      generalize hp : w.heap.size = p at HST
      generalize hq : p + 1 = q at HST
      have HP := Lib.hid hp
      have HQ := Lib.hid hq
      clear hp hq
      obtain ⟨d0, d1, d2, d3, d4, g0, g1, g2, g3, g4⟩ := NdBox.facts HST.out.box
      obtain ⟨x0, x1, x2, x3, x4, y0, y1, y2, y3, y4⟩ := NdBox.facts HST.out.box2
      go_wp2_with fail
      go_ret
      exact ⟨by rw [HS.out]; rfl, HST.out.bel⟩
end Go.Proofs.YteejjkfmmhegmaaGreatDoor
namespace Go.Proofs.YteejjkfmmhegmaaGreatDoor
open Go.RowKit

set_option maxRecDepth 20000 in
set_option maxHeartbeats 4000000 in
theorem samenode_any (a : Nd) : ∀ (v u : Value) (w : World) (L B : Nat), NdV w L B a v → NdV w L B a u → B ≤ w.heap.size → ndSize a ≤ 4194304 →
    Calls Tryz.prog 16 #[v, u] w fun e w' => e = .returned (.bool true) ∧ Below w.heap.size w w' := by
  induction a using Nd.ind with
  | h a ih =>
    intro v u w L B hv hu hB hsz
    obtain ⟨b, cap, rfl, hcap, hrow⟩ := hv
    obtain ⟨d, cap2, rfl, hcap2, hrow2⟩ := hu
    unfold ndCells
    have hkc := kid_count a
    have HIH := Lib.hid (fun (W : World) (j : Nat) (hj : j < a.kids.length) (v u : Value) (hu : NdV W L B a.kids[j] v) (hy : NdV W L B a.kids[j] u) (hW : B ≤ W.heap.size) => ih _ (List.getElem_mem hj) v u W L B hu hy hW (by have := kid_size hj; omega))
    have HST := Lib.hid (NSt2.new (cap := cap) (cap2 := cap2) hrow hrow2 hB)
    clear hrow hrow2 ih
    go_enter Tryz.func16, Tryz.ntmps16
    go_upto_region 1 with fail
    generalize World.alloc (World.alloc w _) _ = w1 at *
    generalize hp : w.heap.size = p at HST
    generalize hq : p + 1 = q at HST
    have HP := Lib.hid hp
    have HQ := Lib.hid hq
    clear hp hq
    obtain ⟨d0, d1, d2, d3, d4, g0, g1, g2, g3, g4⟩ := NdBox.facts HST.out.box
    obtain ⟨x0, x1, x2, x3, x4, y0, y1, y2, y3, y4⟩ := NdBox.facts HST.out.box2
    go_wp2_with fail
    clear d0 d1 d2 d3 d4 g0 g1 g2 g3 g4 x0 x1 x2 x3 x4 y0 y1 y2 y3 y4
    go_loopw [5] (fun i wr => ∃ k : Nat, k ≤ a.kids.length ∧ i = .int .i64 k ∧ NSt2 w p q L B a b cap a d cap2 wr) (fun i _ => a.kids.length - (intOf i).toNat)
    case atStart => exact ⟨0, Nat.zero_le _, rfl, HST.out⟩
    case round =>
      clear HST
      obtain ⟨k, hkl, rfl, hst⟩ := hrel
      have HST := Lib.hid hst
      obtain ⟨d0, d1, d2, d3, d4, g0, g1, g2, g3, g4⟩ := NdBox.facts hst.box
      obtain ⟨x0, x1, x2, x3, x4, y0, y1, y2, y3, y4⟩ := NdBox.facts hst.box2
      by_cases hlt : k < a.kids.length
      · obtain ⟨g, off, b', cap', rfl, hgB, c0, c1, c2, c3, c4, hkv⟩ := RowP_cells hst.row k hlt
        obtain ⟨g', off', d', cap2', rfl, hgB', z0, z1, z2, z3, z4, hkv2⟩ := RowP_cells hst.row2 k hlt
        have hcall := HIH.out wr.drew k hlt _ _ (NdV_bel hkv (Below.drew (Below.refl _ _))) (NdV_bel hkv2 (Below.drew (Below.refl _ _))) (Nat.le_trans hst.hB hst.bel.size)
        generalize a.kids[k] = x at *
        have hdr : Below wr.heap.size wr wr.drew := Below.drew (Below.refl _ _)
        have HCALL := Lib.hid hcall
        clear hst hkv hkv2 hcall
        go_upto_region 6 with fail
        go_still_tail 10, (by kernel_rfl)
        change wpList _ _ _ _ _ wr.drew
        go_wp2_with (go_at_call 16; refine HCALL.out.mono ?_; rintro e w2 ⟨rfl, hb2⟩)
        go_roundw
        case rel => exact ⟨k + 1, hlt, by go_num, HST.out.bel' (hdr.trans hb2)⟩
        case measure => simp [intOf]; omega
      · obtain rfl : k = a.kids.length := by omega
        go_wp2_with fail
        go_ret
        exact ⟨rfl, HST.out.bel⟩
end Go.Proofs.YteejjkfmmhegmaaGreatDoor
namespace Go.Proofs.YteejjkfmmhegmaaGreatDoor
open Go.RowKit

def kidCells : List Nd → List (Option Addr × Nat) → List Value
  | n :: ns, b :: bs => (ndCells n.kind n.text b.1 n.kids.length b.2 n.from' n.till).toList ++ kidCells ns bs
  | _, _ => []
theorem kidCells_len : ∀ (ns : List Nd) (bs : List (Option Addr × Nat)), bs.length = ns.length → (kidCells ns bs).length = ns.length * 5
  | [], [], _ => rfl
  | [], _ :: _, h => by simp at h
  | _ :: _, [], h => by simp at h
  | n :: ns, b :: bs, h => by
    rw [kidCells, List.length_append, kidCells_len ns bs (by simpa using h), List.length_cons]
    simp [ndCells]
    omega
theorem kidCells_snoc : ∀ (ns : List Nd) (bs : List (Option Addr × Nat)) (n : Nd) (b : Option Addr × Nat), bs.length = ns.length → kidCells (ns ++ [n]) (bs ++ [b]) = kidCells ns bs ++ (ndCells n.kind n.text b.1 n.kids.length b.2 n.from' n.till).toList
  | [], [], _, _, _ => by simp [kidCells]
  | [], _ :: _, _, _, h => by simp at h
  | _ :: _, [], _, _, h => by simp at h
  | m :: ns, c :: bs, n, b, h => by
    rw [List.cons_append, List.cons_append, kidCells, kidCells, kidCells_snoc ns bs n b (by simpa using h), List.append_assoc]
theorem kidCells_get : ∀ (ns : List Nd) (bs : List (Option Addr × Nat)) (hl : bs.length = ns.length) (j i : Nat) (hj : j < ns.length), i < 5 → (kidCells ns bs)[j * 5 + i]? = (ndCells ns[j].kind ns[j].text (bs[j]'(by omega)).1 ns[j].kids.length (bs[j]'(by omega)).2 ns[j].from' ns[j].till)[i]?
  | [], _, _, j, _, hj, _ => absurd hj (by simp)
  | _ :: _, [], h, _, _, _, _ => by simp at h
  | n :: ns, b :: bs, h, 0, i, _, hi => by
    rw [kidCells, Nat.zero_mul, Nat.zero_add, List.getElem?_append_left (by simp [ndCells]; omega)]
    simp
  | n :: ns, b :: bs, h, j + 1, i, hj, hi => by
    rw [kidCells, List.getElem?_append_right (by simp [ndCells]; omega)]
    have e : (j + 1) * 5 + i - (ndCells n.kind n.text b.1 n.kids.length b.2 n.from' n.till).toList.length = j * 5 + i := by simp [ndCells]; omega
    rw [e, kidCells_get ns bs (by simpa using h) j i (by simpa using hj) hi]
    rfl
theorem kidCells_one : ∀ (ns : List Nd) (bs : List (Option Addr × Nat)), ∀ u ∈ kidCells ns bs, u.oneCell' = true
  | [], _, u, h => by simp [kidCells] at h
  | _ :: _, [], u, h => by simp [kidCells] at h
  | n :: ns, b :: bs, u, h => by
    rw [kidCells] at h
    rcases List.mem_append.1 h with h | h
    · simp only [ndCells, List.mem_cons, List.not_mem_nil, or_false] at h
      rcases h with rfl | rfl | rfl | rfl | rfl <;> rfl
    · exact kidCells_one ns bs u h
/-- what is asked of a kid's row: its place, its room. -/
abbrev RowPred := World → Nat → Nat → Nd → Option Addr → Nat → Prop
/-- it looks at the blocks from L up to B alone. -/
structure Keeps (R : RowPred) : Prop where
  k : ∀ {w w' : World} {L B L' B' : Nat} {x : Nd} {b : Option Addr} {c : Nat}, L' ≤ L → B ≤ B' → (∀ k, L ≤ k → k < B → w'.heap[k]? = w.heap[k]?) → R w L B x b c → R w' L' B' x b c
/-- the rows that the collected kids lead to lie in blocks of their own, none of them the block of the row itself. -/
def KRow (R : RowPred) (w : World) (base : Nat) (v : Value) (xs : List Nd) : Prop :=
  ∃ bs : List (Option Addr × Nat), bs.length = xs.length ∧ w.ownsRow base 24 5 v xs.length (kidCells xs bs) ∧
    ∀ j, (hj : j < xs.length) → (hb : j < bs.length) → ∃ L B, base ≤ L ∧ B ≤ w.heap.size ∧ (∀ g, v.ownBlock = some g → g < L ∨ B ≤ g) ∧ R w L B xs[j] bs[j].1 bs[j].2
theorem KRow.nil (R : RowPred) (w : World) (base : Nat) : KRow R w base (.slice none 0 0) [] := ⟨[], rfl, World.ownsRow_nil _ _ _ _, fun j h => absurd h (by simp)⟩
theorem KRow.high {R : RowPred} (hR : Keeps R) {w w' : World} {base : Nat} {v : Value} {xs : List Nd} (h : KRow R w base v xs) (hz : w.heap.size ≤ w'.heap.size) (hk : ∀ k, base ≤ k → k < w.heap.size → w'.heap[k]? = w.heap[k]?) : KRow R w' base v xs := by
  obtain ⟨bs, h1, h2, h3⟩ := h
  refine ⟨bs, h1, ⟨h2.1, ?_⟩, fun j hj hbj => ?_⟩
  · rcases h2.2 with h | ⟨g, cap, cur, hv, hg, hc, r⟩
    · exact .inl h
    · exact .inr ⟨g, cap, cur, hv, hg, (hk g hg (Array.getElem?_eq_some_iff.1 hc).1).trans hc, r⟩
  · obtain ⟨L, B, c1, c2, c3, c4⟩ := h3 j hj hbj
    exact ⟨L, B, c1, Nat.le_trans c2 hz, c3, hR.k (Nat.le_refl _) (Nat.le_refl _) (fun k k1 k2 => hk k (by omega) (by omega)) c4⟩
theorem KRow.bel {R : RowPred} (hR : Keeps R) {w w' : World} {base : Nat} {v : Value} {xs : List Nd} (h : KRow R w base v xs) (hb : Below w.heap.size w w') : KRow R w' base v xs :=
  h.high hR hb.size fun k _ h2 => hb.block k h2
/-- the row's cells. -/
noncomputable def KRow.cells {R : RowPred} {w : World} {base : Nat} {v : Value} {xs : List Nd} (h : KRow R w base v xs) : List Value := kidCells xs (Classical.choose h)
theorem KRow.own {R : RowPred} {w : World} {base m : Nat} {v : Value} {xs : List Nd} (h : KRow R w base v xs) (hm : xs.length = m) : w.ownsRow base 24 5 v m h.cells := by
  subst hm
  exact (Classical.choose_spec h).2.1
/-- one more: x's rows lie in blocks from L up to B, behind the row; the append wrote the row's block, or a new one. -/
theorem KRow.push {R : RowPred} (hR : Keeps R) {w1 w2 : World} {base m : Nat} {v : Value} {xs : List Nd} {x : Nd} {b : Option Addr} {cap g cap2 L B : Nat} {o : Obj} (h : KRow R w1 base v xs) (hm : xs.length = m) (hL : base ≤ L) (hv : ∀ g, v.ownBlock = some g → g < L) (hB : B ≤ w1.heap.size) (hr : R w1 L B x b cap)
    (ho : w2.ownsRow base 24 5 (.slice (some ⟨g, 0, none⟩) (m + 1) cap2) (m + 1) (h.cells ++ (ndCells x.kind x.text b x.kids.length cap x.from' x.till).toList)) (hg : (w1.alloc o).grownBy w2 v.ownBlock) (hat : v.ownBlock = some g ∨ g = w1.heap.size + 1) :
    KRow R w2 base (.slice (some ⟨g, 0, none⟩) (m + 1) cap2) (xs ++ [x]) := by
  subst hm
  unfold KRow.cells at ho
  obtain ⟨h1, h2, h3⟩ := Classical.choose_spec h
  generalize Classical.choose h = bs at *
  have hsz : (w1.alloc o).heap.size = w1.heap.size + 1 := World.size_alloc _ _
  have hgs := hg.size
  -- an old block but the row's own lies as it lay
  have hold : ∀ k, k < w1.heap.size → v.ownBlock ≠ some k → w2.heap[k]? = w1.heap[k]? := fun k hk hne => (hg.block k (by omega) (fun e => hne e.symm)).trans (Below.heap_alloc _ _ _ hk)
  refine ⟨bs ++ [(b, cap)], by simp [h1], ?_, fun j hj hbj => ?_⟩
  · rw [kidCells_snoc xs bs x (b, cap) h1, List.length_append]
    exact ho
  · by_cases hlt : j < xs.length
    · have hbl : j < bs.length := by omega
      rw [List.getElem_append_left hlt, List.getElem_append_left hbl]
      obtain ⟨L', B', c1, c2, c3, c4⟩ := h3 j hlt hbl
      refine ⟨L', B', c1, by omega, fun g' e => ?_, hR.k (Nat.le_refl _) (Nat.le_refl _) (fun k k1 k2 => ?_) c4⟩
      · have e' : g = g' := by simpa [Value.ownBlock] using e
        subst e'
        rcases hat with hat | hat
        · exact c3 g hat
        · right; omega
      · refine hold k (by omega) (fun e => ?_)
        rcases c3 k e with h | h <;> omega
    · have hje : j = xs.length := by simp at hj; omega
      subst hje
      rw [List.getElem_append_right (Nat.le_refl _), List.getElem_append_right (by omega)]
      simp only [Nat.sub_self, List.getElem_cons_zero, h1]
      refine ⟨L, B, hL, by omega, fun g' e => ?_, hR.k (Nat.le_refl _) (Nat.le_refl _) (fun k k1 k2 => ?_) hr⟩
      · have e' : g = g' := by simpa [Value.ownBlock] using e
        subst e'
        rcases hat with hat | hat
        · left
          exact hv g hat
        · right; omega
      · refine hold k (by omega) (fun e => ?_)
        have := hv k e
        omega
/-- what the row holds of a kid: its cells, at a place that may be written, and its row. -/
def KidAt (R : RowPred) (w : World) (base B : Nat) (x : Nd) (g o : Nat) : Prop :=
  base ≤ g ∧ g < B ∧ o % 5 = 0 ∧ (∀ i, i < 5 → w.frozen? ⟨g, o + i, none⟩ = false) ∧ ∃ b cap, (∀ i, i < 5 → w.cell? ⟨g, o + i, none⟩ = (ndCells x.kind x.text b x.kids.length cap x.from' x.till)[i]?) ∧ R w base B x b cap
/-- the row is a node's kids. -/
theorem KRow.at' {R : RowPred} (hR : Keeps R) {w : World} {base : Nat} {v : Value} {xs : List Nd} (h : KRow R w base v xs) :
    ∃ b cap, v = .slice b xs.length cap ∧ xs.length ≤ cap ∧ ∀ j, (hj : j < xs.length) → ∃ g, b = some ⟨g, 0, none⟩ ∧ KidAt R w base w.heap.size xs[j] g (j * 5) := by
  obtain ⟨bs, h1, h2, h3⟩ := h
  rcases h2.2 with ⟨rfl, h0⟩ | ⟨g, cap, cur, rfl, hg, hc, hn, hrest⟩
  · have : xs = [] := List.length_eq_zero_iff.1 h0
    subst this
    exact ⟨none, 0, rfl, Nat.le_refl _, fun j hj => absurd hj (by simp)⟩
  · refine ⟨_, cap, rfl, hn, fun j hj => ⟨g, rfl, ?_⟩⟩
    have hlt := (Array.getElem?_eq_some_iff.1 hc).1
    have hbj : j < bs.length := by omega
    have hcell : ∀ i, i < 5 → w.cell? ⟨g, j * 5 + i, none⟩ = (ndCells xs[j].kind xs[j].text bs[j].1 xs[j].kids.length bs[j].2 xs[j].from' xs[j].till)[i]? := fun i hi => by
      rw [h2.cellAt (j * 5 + i) (by omega)]
      exact kidCells_get xs bs h1 j i hj hi
    obtain ⟨L, B, c1, c2, _, c4⟩ := h3 j hj hbj
    exact ⟨hg, hlt, by omega, fun i hi => frozen_of_row w g _ _ _ hc, bs[j].1, bs[j].2, hcell, hR.k c1 c2 (fun _ _ _ => rfl) c4⟩
/- a tree that may be written: its places, whatever stands in them. -/
mutual
def ShC (w : World) (L B : Nat) : Nd → Nat → Nat → Prop
  | .mk _ _ ks _ _, g, o => L ≤ g ∧ g < B ∧ o % 5 = 0 ∧ w.frozen? ⟨g, o, none⟩ = false ∧ (∃ z, w.cell? ⟨g, o, none⟩ = some (.int .i64 z)) ∧ ∃ b cap, w.cell? ⟨g, o + 2, none⟩ = some (.slice b ks.length cap) ∧ ShR w L B ks b 0
def ShR (w : World) (L B : Nat) : List Nd → Option Addr → Nat → Prop
  | [], _, _ => True
  | k :: ks, a, i => (∃ g off, a = some ⟨g, off, none⟩ ∧ ShC w L B k g (off + i * 5)) ∧ ShR w L B ks a (i + 1)
end
theorem ShC_eq (w : World) (L B : Nat) (n : Nd) (g o : Nat) : ShC w L B n g o = (L ≤ g ∧ g < B ∧ o % 5 = 0 ∧ w.frozen? ⟨g, o, none⟩ = false ∧ (∃ z, w.cell? ⟨g, o, none⟩ = some (.int .i64 z)) ∧ ∃ b cap, w.cell? ⟨g, o + 2, none⟩ = some (.slice b n.kids.length cap) ∧ ShR w L B n.kids b 0) := by
  cases n
  rw [ShC]
  rfl
theorem ShR_get {w : World} {L B : Nat} {a : Option Addr} : ∀ {ks : List Nd} {i : Nat}, ShR w L B ks a i → ∀ j, (h : j < ks.length) → ∃ g off, a = some ⟨g, off, none⟩ ∧ ShC w L B ks[j] g (off + (i + j) * 5)
  | [], _, _, j, h => absurd h (by simp)
  | k :: ks, i, hr, j, h => by
    rw [ShR] at hr
    cases j with
    | zero => exact hr.1
    | succ j =>
      have := ShR_get hr.2 j (by simpa using h)
      rw [show i + 1 + j = i + (j + 1) by omega] at this
      exact this
theorem ShR_of {w : World} {L B : Nat} {a : Option Addr} : ∀ {ks : List Nd} {i : Nat}, (∀ j, (h : j < ks.length) → ∃ g off, a = some ⟨g, off, none⟩ ∧ ShC w L B ks[j] g (off + (i + j) * 5)) → ShR w L B ks a i
  | [], _, _ => by rw [ShR]; trivial
  | k :: ks, i, h => by
    rw [ShR]
    refine ⟨h 0 (by simp), ShR_of fun j hj => ?_⟩
    have := h (j + 1) (by simpa using hj)
    rw [show i + 1 + j = i + (j + 1) by omega]
    exact this
theorem ShC_keep {w w' : World} {L B L' B' : Nat} (hL : L' ≤ L) (hB : B ≤ B') (hk : ∀ k, L ≤ k → k < B → w'.heap[k]? = w.heap[k]?) (n : Nd) : ∀ g o, ShC w L B n g o → ShC w' L' B' n g o := by
  induction n using Nd.ind with
  | h n ih =>
    intro g o h
    rw [ShC_eq] at h ⊢
    obtain ⟨h2, h3, h4, h5, ⟨z, h6⟩, b, cap, c2, hr⟩ := h
    have hcell : ∀ o, w'.cell? ⟨g, o, none⟩ = w.cell? ⟨g, o, none⟩ := fun o => World.cell?_of_block (hk g h2 h3)
    refine ⟨by omega, by omega, h4, (World.frozen?_of_block (a := ⟨g, o, none⟩) (hk g h2 h3)).trans h5, ⟨z, by rw [hcell]; exact h6⟩, b, cap, by rw [hcell]; exact c2, ShR_of fun j hj => ?_⟩
    obtain ⟨g', off, ha, hn⟩ := ShR_get hr j hj
    exact ⟨g', off, ha, ih _ (List.getElem_mem hj) _ _ hn⟩
theorem ShR_keep {w w' : World} {L B L' B' : Nat} (hL : L' ≤ L) (hB : B ≤ B') (hk : ∀ k, L ≤ k → k < B → w'.heap[k]? = w.heap[k]?) {ks : List Nd} {a : Option Addr} {i : Nat} (h : ShR w L B ks a i) : ShR w' L' B' ks a i :=
  ShR_of fun j hj => by
    obtain ⟨g, off, ha, hn⟩ := ShR_get h j hj
    exact ⟨g, off, ha, ShC_keep hL hB hk _ _ _ hn⟩
/-- a kid's row as this code makes it: a tree, at places that may be written. -/
def RowE (w : World) (L B : Nat) (x : Nd) (b : Option Addr) (c : Nat) : Prop := x.kids.length ≤ c ∧ RowP w L B x.kids b 0 ∧ ShR w L B x.kids b 0
theorem RowE.keeps : Keeps RowE := ⟨fun hL hB hk ⟨h1, h2, h3⟩ => ⟨h1, RowP_keep hL hB hk h2, ShR_keep hL hB hk h3⟩⟩
theorem KidAt.ndc {w : World} {L B : Nat} {x : Nd} {g o : Nat} (h : KidAt RowE w L B x g o) : NdC w L B x g o := by
  obtain ⟨h1, h2, _, _, b, cap, hc, h3, h4, _⟩ := h
  rw [NdC_eq]
  exact ⟨b, cap, h1, h2, hc 0 (by decide), hc 1 (by decide), hc 2 (by decide), hc 3 (by decide), hc 4 (by decide), h3, h4⟩
theorem KidAt.shc {w : World} {L B : Nat} {x : Nd} {g o : Nat} (h : KidAt RowE w L B x g o) : ShC w L B x g o := by
  obtain ⟨h1, h2, h3, h4, b, cap, hc, _, _, h5⟩ := h
  rw [ShC_eq]
  exact ⟨h1, h2, h3, h4 0 (by decide), ⟨_, hc 0 (by decide)⟩, b, cap, hc 2 (by decide), h5⟩
/-- the row is a node's kids. -/
theorem KRow.row {w : World} {base : Nat} {v : Value} {xs : List Nd} (h : KRow RowE w base v xs) : ∃ b cap, v = .slice b xs.length cap ∧ xs.length ≤ cap ∧ RowP w base w.heap.size xs b 0 ∧ ShR w base w.heap.size xs b 0 := by
  obtain ⟨b, cap, rfl, hn, hk⟩ := h.at' RowE.keeps
  refine ⟨b, cap, rfl, hn, RowP_of fun j hj => ?_, ShR_of fun j hj => ?_⟩
  · obtain ⟨g, rfl, hx⟩ := hk j hj
    exact ⟨g, 0, rfl, by rw [Nat.zero_add, Nat.zero_add]; exact hx.ndc⟩
  · obtain ⟨g, rfl, hx⟩ := hk j hj
    exact ⟨g, 0, rfl, by rw [Nat.zero_add, Nat.zero_add]; exact hx.shc⟩
/-- a node's value as this code makes it. -/
def NdW (w : World) (L B : Nat) (n : Nd) (v : Value) : Prop := ∃ b cap, v = .agg (ndCells n.kind n.text b n.kids.length cap n.from' n.till) ∧ RowE w L B n b cap
theorem NdW.v {w : World} {L B : Nat} {n : Nd} {v : Value} (h : NdW w L B n v) : NdV w L B n v := by
  obtain ⟨b, cap, h1, h2, h3, _⟩ := h
  exact ⟨b, cap, h1, h2, h3⟩
theorem NdW.bel {w w' : World} {L B : Nat} {n : Nd} {v : Value} (h : NdW w L B n v) (hb : Below B w w') : NdW w' L B n v := by
  obtain ⟨b, cap, h1, h2⟩ := h
  exact ⟨b, cap, h1, RowE.keeps.k (Nat.le_refl _) (Nat.le_refl _) (fun k _ hk => hb.block k hk) h2⟩
end Go.Proofs.YteejjkfmmhegmaaGreatDoor
namespace Go.Proofs.YteejjkfmmhegmaaGreatDoor
open Go.RowKit

theorem infoNd : (Tryz.prog.info? 24).map (fun i => (i.zero, i.size, i.bytes)) = some (some (.agg #[.int .i64 0, .string ⟨#[]⟩, .slice none 0 0, .int .i64 0, .int .i64 0]), 5, 64) := by kernel_rfl
/-- a node's block, whatever its kids. -/
def NdBoxV (w : World) (p : Nat) (k : Int) (t : ByteArray) (v : Value) (f u : Int) : Prop := w.heap[p]? = some (.cells #[.int .i64 k, .string t, v, .int .i64 f, .int .i64 u] 24 (0, 0))
theorem NdBoxV.lt {w : World} {p : Nat} {k : Int} {t : ByteArray} {v : Value} {f u : Int} (h : NdBoxV w p k t v f u) : p < w.heap.size := (Array.getElem?_eq_some_iff.1 h).1
theorem NdBoxV.bel {w w' : World} {p : Nat} {k : Int} {t : ByteArray} {v : Value} {f u : Int} (h : NdBoxV w p k t v f u) (hb : Below w.heap.size w w') : NdBoxV w' p k t v f u := (hb.block p h.lt).trans h
theorem NdBoxV.facts {w : World} {p : Nat} {k : Int} {t : ByteArray} {v : Value} {f u : Int} (h : NdBoxV w p k t v f u) :
    w.cell? ⟨p, 0, none⟩ = some (.int .i64 k) ∧ w.cell? ⟨p, 1, none⟩ = some (.string t) ∧ w.cell? ⟨p, 2, none⟩ = some v ∧ w.cell? ⟨p, 3, none⟩ = some (.int .i64 f) ∧ w.cell? ⟨p, 4, none⟩ = some (.int .i64 u) ∧
    w.frozen? ⟨p, 0, none⟩ = false ∧ w.frozen? ⟨p, 1, none⟩ = false ∧ w.frozen? ⟨p, 2, none⟩ = false ∧ w.frozen? ⟨p, 3, none⟩ = false ∧ w.frozen? ⟨p, 4, none⟩ = false := by
  have hc := fun o => cell_of_row w p o _ _ (0, 0) h
  have hf := fun o => frozen_of_row w p o _ _ h
  exact ⟨hc 0, hc 1, hc 2, hc 3, hc 4, hf 0, hf 1, hf 2, hf 3, hf 4⟩
/-- a copy under way: the node's box, the result's, the copy's; k kids are copied. -/
structure CpS (w0 : World) (p q r L B : Nat) (n : Nd) (b : Option Addr) (cap : Nat) (vk : Value) (k : Nat) (wr : World) : Prop where
  st : NSt w0 p L B n b cap wr
  res : NdBoxV wr q 0 ⟨#[]⟩ (.slice none 0 0) 0 0
  out : NdBoxV wr r n.kind n.text vk n.from' n.till
  kr : KRow RowE wr (r + 1) vk (n.kids.take k)
  pq : p < q
  qr : q < r
  hr : r < wr.heap.size
/-- what a round of the copy uses of the call. -/
theorem copy_use {f : Nat} {w0 wr W : World} {p q r L B : Nat} {n x : Nd} {b : Option Addr} {cap : Nat} {vk : Value} {k : Nat} {args : Array Value} (h : CpS w0 p q r L B n b cap vk k wr) (hk2 : k ≤ n.kids.length) (hW : Below wr.heap.size wr W)
    (hc : Calls Tryz.prog f args W fun e w' => ∃ u, e = .returned u ∧ NdW w' W.heap.size w'.heap.size x u ∧ Below W.heap.size W w') :
    Calls Tryz.prog f args W fun e w' => ∃ bu cu, e = .returned (.agg #[.int .i64 x.kind, .string x.text, .slice bu x.kids.length cu, .int .i64 x.from', .int .i64 x.till]) ∧ RowE w' wr.heap.size w'.heap.size x bu cu ∧ Below wr.heap.size wr w' ∧
      KRow RowE w' (r + 1) vk (n.kids.take k) ∧ (n.kids.take k).length = k ∧
      w'.cell? ⟨r, 2, none⟩ = some vk ∧ w'.frozen? ⟨r, 2, none⟩ = false ∧ r < w'.heap.size := by
  refine hc.mono fun e w' => ?_
  rintro ⟨u, rfl, ⟨bu, cu, rfl, hru⟩, hb⟩
  have hb2 := hW.trans (hb.mono hW.size)
  have ho := h.out.bel hb2
  obtain ⟨_, _, e2, _, _, _, _, f2, _, _⟩ := NdBoxV.facts ho
  exact ⟨bu, cu, rfl, RowE.keeps.k hW.size (Nat.le_refl _) (fun _ _ _ => rfl) hru, hb2, h.kr.bel RowE.keeps hb2, by rw [List.length_take]; omega, e2, f2, ho.lt⟩
theorem five_one {a : Int} {t : ByteArray} {b : Option Addr} {m c : Nat} {f u : Int} : ∀ y ∈ ([.int .i64 a, .string t, .slice b m c, .int .i64 f, .int .i64 u] : List Value), y.oneCell' = true := by
  intro y hy
  simp only [List.mem_cons, List.not_mem_nil, or_false] at hy
  rcases hy with rfl | rfl | rfl | rfl | rfl <;> rfl
theorem push_far {w2 w3 : World} {o : Obj} {v : Value} {r n : Nat} {ys : List Value} (hg : (w2.alloc o).grownBy w3 v.ownBlock) (ho : w2.ownsRow (r + 1) 24 5 v n ys) (hr : r < w2.heap.size) : w3.heap[r]? = w2.heap[r]? := by
  refine (hg.block r (by rw [World.size_alloc]; omega) (fun e => ?_)).trans (Below.heap_alloc _ _ _ hr)
  have := (ho.lt r e.symm).1
  omega
theorem NSt.low {w0 wr w' : World} {p L B r : Nat} {n : Nd} {b : Option Addr} {cap : Nat} (h : NSt w0 p L B n b cap wr) (hb : Below r wr w') (hp : p < r) : NSt w0 p L B n b cap w' := by
  have h1 := h.hp
  have h2 := h.hB
  exact ⟨h.box.bel hb hp, RowP_bel h.row (hb.mono (by omega)), h.bel.trans (hb.mono (by omega)), h.hp, h.hB⟩
/-- a round of the copy. -/
theorem CpS.step {w0 wr w2 w3 : World} {p q r L B : Nat} {n x : Nd} {b bu : Option Addr} {cap cu : Nat} {vk : Value} {k g cap1 : Nat} {o : Obj} (h : CpS w0 p q r L B n b cap vk k wr) (hk : k < n.kids.length) (hx : n.kids[k] = x)
    (hb2 : Below wr.heap.size wr w2) (hru : RowE w2 wr.heap.size w2.heap.size x bu cu) (hkr2 : KRow RowE w2 (r + 1) vk (n.kids.take k)) (hlen : (n.kids.take k).length = k)
    (ho : w3.ownsRow (r + 1) 24 5 (.slice (some ⟨g, 0, none⟩) (k + 1) cap1) (k + 1) (hkr2.cells ++ (ndCells x.kind x.text bu x.kids.length cu x.from' x.till).toList))
    (hg : (w2.alloc o).grownBy w3 vk.ownBlock) (hat : vk.ownBlock = some g ∨ g = w2.heap.size + 1) (hr : r < w2.heap.size) :
    CpS w0 p q r L B n b cap (.slice (some ⟨g, 0, none⟩) (k + 1) cap1) (k + 1) (w3.setCell ⟨r, 2, none⟩ (.slice (some ⟨g, 0, none⟩) (k + 1) cap1)) := by
  have hown := hkr2.own hlen
  have hpq := h.pq
  have hqr := h.qr
  have hwr := h.hr
  have hst := h.st.hp
  have hlow : Below r wr (w3.setCell ⟨r, 2, none⟩ (.slice (some ⟨g, 0, none⟩) (k + 1) cap1)) := by
    have h3 : Below r w2 w3 := by
      refine ((Below.refl r w2).alloc (by omega) o).grown hg (by rw [World.size_alloc]; omega) (fun i e => ?_)
      have := (hown.lt i e).1
      omega
    exact ((hb2.mono (by omega)).trans h3).setCell (p := ⟨r, 2, none⟩) (Nat.le_refl _) _
  have hz3 := hg.size
  rw [World.size_alloc] at hz3
  have hkr : KRow RowE w3 (r + 1) (.slice (some ⟨g, 0, none⟩) (k + 1) cap1) (n.kids.take k ++ [x]) :=
    KRow.push RowE.keeps hkr2 hlen (by omega) (fun i e => ((h.kr.own hlen).lt i e).2) (Nat.le_refl _) hru ho hg hat
  refine ⟨h.st.low hlow (by omega), (hlow.block q (by omega)).trans h.res, ?_, ?_, hpq, hqr, ?_⟩
  · have h1 : w3.heap[r]? = some (.cells #[.int .i64 n.kind, .string n.text, vk, .int .i64 n.from', .int .i64 n.till] 24 (0, 0)) := (push_far hg hown hr).trans (h.out.bel hb2)
    exact heap_setCell_same w3 r 2 _ 24 (.slice (some ⟨g, 0, none⟩) (k + 1) cap1) h1
  · rw [List.take_succ_eq_append_getElem hk, hx]
    exact hkr.high RowE.keeps (by simp [World.setCell]) (fun i h1 _ => Below.heap_setCell _ _ _ _ (by show i ≠ r; omega))
  · simp only [World.setCell, Array.size_modify]
    omega
/-- a result laid. -/
def lay5 (w : World) (q : Nat) (k : Int) (t : ByteArray) (v : Value) (f u : Int) : World := ((((w.setCell ⟨q, 0, none⟩ (.int .i64 k)).setCell ⟨q, 1, none⟩ (.string t)).setCell ⟨q, 2, none⟩ v).setCell ⟨q, 3, none⟩ (.int .i64 f)).setCell ⟨q, 4, none⟩ (.int .i64 u)
theorem NdBoxV.lay {w : World} {q : Nat} {k0 k : Int} {t0 t : ByteArray} {v0 v : Value} {f0 f u0 u : Int} (h : NdBoxV w q k0 t0 v0 f0 u0) : NdBoxV (lay5 w q k t v f u) q k t v f u := by
  have h1 := heap_setCell_same w q 0 _ 24 (.int .i64 k) h
  have h2 := heap_setCell_same _ q 1 _ 24 (.string t) h1
  have h3 := heap_setCell_same _ q 2 _ 24 v h2
  have h4 := heap_setCell_same _ q 3 _ 24 (.int .i64 f) h3
  exact heap_setCell_same _ q 4 _ 24 (.int .i64 u) h4
theorem lay5_block (w : World) (q : Nat) (k : Int) (t : ByteArray) (v : Value) (f u : Int) (i : Nat) (h : i ≠ q) : (lay5 w q k t v f u).heap[i]? = w.heap[i]? := by
  unfold lay5
  rw [Below.heap_setCell _ _ _ _ h, Below.heap_setCell _ _ _ _ h, Below.heap_setCell _ _ _ _ h, Below.heap_setCell _ _ _ _ h, Below.heap_setCell _ _ _ _ h]
theorem lay5_size (w : World) (q : Nat) (k : Int) (t : ByteArray) (v : Value) (f u : Int) : (lay5 w q k t v f u).heap.size = w.heap.size := by simp [lay5, World.setCell]
theorem lay5_bel {B : Nat} {a w : World} (h : Below B a w) {q : Nat} (hq : B ≤ q) (k : Int) (t : ByteArray) (v : Value) (f u : Int) : Below B a (lay5 w q k t v f u) :=
  ((((h.setCell (p := ⟨q, 0, none⟩) hq _).setCell (p := ⟨q, 1, none⟩) hq _).setCell (p := ⟨q, 2, none⟩) hq _).setCell (p := ⟨q, 3, none⟩) hq _).setCell (p := ⟨q, 4, none⟩) hq _
theorem results_nd {fn : Func} {p : Tmp} (h : fn.results = #[.cell p 24]) (tmps : Array Value) (w : World) (g : Nat) {k : Int} {t : ByteArray} {v : Value} {f u : Int} (hp : tmps.getD p undef = .pointer (some ⟨g, 0, none⟩)) (hx : NdBoxV w g k t v f u) :
    (results fn tmps).run Tryz.prog w = .ok (.agg #[.int .i64 k, .string t, v, .int .i64 f, .int .i64 u]) w :=
  results_cell_row h tmps w g 24 _ (0, 0) _ hp hx Tryz.underlying24 rfl (by kernel_rfl)
/-- all kids are copied: the result. -/
theorem CpS.done {w0 wr : World} {p q r L B : Nat} {n : Nd} {b : Option Addr} {cap : Nat} {vk : Value} (h : CpS w0 p q r L B n b cap vk n.kids.length wr) :
    ∃ b' cap', vk = .slice b' n.kids.length cap' ∧ NdW (lay5 wr q n.kind n.text (.slice b' n.kids.length cap') n.from' n.till) w0.heap.size (lay5 wr q n.kind n.text (.slice b' n.kids.length cap') n.from' n.till).heap.size n (.agg #[.int .i64 n.kind, .string n.text, .slice b' n.kids.length cap', .int .i64 n.from', .int .i64 n.till]) ∧
      Below w0.heap.size w0 (lay5 wr q n.kind n.text (.slice b' n.kids.length cap') n.from' n.till) ∧ NdBoxV (lay5 wr q n.kind n.text (.slice b' n.kids.length cap') n.from' n.till) q n.kind n.text (.slice b' n.kids.length cap') n.from' n.till := by
  have h1 := h.pq
  have h2 := h.qr
  have h3 := h.st.hp
  have hk := h.kr
  rw [List.take_length] at hk
  obtain ⟨b', cap', hv, hc, hr, hr2⟩ := hk.row
  refine ⟨b', cap', hv, ⟨b', cap', rfl, ?_⟩, lay5_bel h.st.bel (by omega) _ _ _ _ _, h.res.lay⟩
  rw [lay5_size]
  exact RowE.keeps.k (by omega) (Nat.le_refl _) (fun i h4 _ => lay5_block _ _ _ _ _ _ _ _ (by omega)) ⟨hc, hr, hr2⟩
set_option maxRecDepth 20000 in
set_option maxHeartbeats 2000000 in
theorem copy_any (n : Nd) : ∀ (v : Value) (w : World) (L B : Nat), NdV w L B n v → B ≤ w.heap.size → ndSize n ≤ 4194304 →
    Calls Tryz.prog 10 #[v] w fun e w' => ∃ u, e = .returned u ∧ NdW w' w.heap.size w'.heap.size n u ∧ Below w.heap.size w w' := by
  induction n using Nd.ind with
  | h n ih =>
    intro v w L B hv hB hsz
    obtain ⟨b, cap, rfl, hcap, hrow⟩ := hv
    unfold ndCells
    have hkc := kid_count n
    have HIH := Lib.hid (fun (W : World) (j : Nat) (hj : j < n.kids.length) (v : Value) (hu : NdV W L B n.kids[j] v) (hW : B ≤ W.heap.size) => ih _ (List.getElem_mem hj) v W L B hu hW (by have := kid_size hj; omega))
    have HST := Lib.hid (NSt.new (cap := cap) hrow hB)
    clear hrow ih
    go_enter Tryz.func10, Tryz.ntmps10
    go_upto_region 3 with fail
    have hR : NdBoxV (((w.alloc (.cells #[.int .i64 n.kind, .string n.text, .slice b n.kids.length cap, .int .i64 n.from', .int .i64 n.till] 24)).alloc (.cells #[.int .i64 0, .string ⟨#[]⟩, .slice none 0 0, .int .i64 0, .int .i64 0] 24)).alloc (.cells #[.int .i64 n.kind, .string n.text, .slice none 0 0, .int .i64 n.from', .int .i64 n.till] 24)) (w.heap.size + 1 + 1) n.kind n.text (.slice none 0 0) n.from' n.till := by
      have := heap_alloc_new ((w.alloc (.cells #[.int .i64 n.kind, .string n.text, .slice b n.kids.length cap, .int .i64 n.from', .int .i64 n.till] 24)).alloc (.cells #[.int .i64 0, .string ⟨#[]⟩, .slice none 0 0, .int .i64 0, .int .i64 0] 24)) (.cells #[.int .i64 n.kind, .string n.text, .slice none 0 0, .int .i64 n.from', .int .i64 n.till] 24)
      rw [World.size_alloc, World.size_alloc] at this
      exact this
    have hQ : NdBoxV (((w.alloc (.cells #[.int .i64 n.kind, .string n.text, .slice b n.kids.length cap, .int .i64 n.from', .int .i64 n.till] 24)).alloc (.cells #[.int .i64 0, .string ⟨#[]⟩, .slice none 0 0, .int .i64 0, .int .i64 0] 24)).alloc (.cells #[.int .i64 n.kind, .string n.text, .slice none 0 0, .int .i64 n.from', .int .i64 n.till] 24)) (w.heap.size + 1) 0 ⟨#[]⟩ (.slice none 0 0) 0 0 := by
      have := heap_alloc_new (w.alloc (.cells #[.int .i64 n.kind, .string n.text, .slice b n.kids.length cap, .int .i64 n.from', .int .i64 n.till] 24)) (.cells #[.int .i64 0, .string ⟨#[]⟩, .slice none 0 0, .int .i64 0, .int .i64 0] 24)
      rw [World.size_alloc] at this
      exact (Below.heap_alloc _ _ _ (by rw [World.size_alloc, World.size_alloc]; omega)).trans this
    have hS : NSt w w.heap.size L B n b cap (((w.alloc (.cells #[.int .i64 n.kind, .string n.text, .slice b n.kids.length cap, .int .i64 n.from', .int .i64 n.till] 24)).alloc (.cells #[.int .i64 0, .string ⟨#[]⟩, .slice none 0 0, .int .i64 0, .int .i64 0] 24)).alloc (.cells #[.int .i64 n.kind, .string n.text, .slice none 0 0, .int .i64 n.from', .int .i64 n.till] 24)) :=
      (HST.out.bel' (Below.alloc (Below.refl _ _) (Nat.le_refl _) _)).bel' (Below.alloc (Below.refl _ _) (Nat.le_refl _) _)
    have hCP : CpS w w.heap.size (w.heap.size + 1) (w.heap.size + 1 + 1) L B n b cap (.slice none 0 0) 0 (((w.alloc (.cells #[.int .i64 n.kind, .string n.text, .slice b n.kids.length cap, .int .i64 n.from', .int .i64 n.till] 24)).alloc (.cells #[.int .i64 0, .string ⟨#[]⟩, .slice none 0 0, .int .i64 0, .int .i64 0] 24)).alloc (.cells #[.int .i64 n.kind, .string n.text, .slice none 0 0, .int .i64 n.from', .int .i64 n.till] 24)) :=
      ⟨hS, hQ, hR, KRow.nil _ _ _, by omega, by omega, by rw [World.size_alloc, World.size_alloc, World.size_alloc]; omega⟩
    generalize World.alloc (World.alloc (World.alloc w _) _) _ = w1 at *
    generalize hp : w.heap.size = p at hCP
    generalize hq : p + 1 = q at *
    generalize hr : q + 1 = r at *
    have HP := Lib.hid hp
    have HQ := Lib.hid hq
    have HR := Lib.hid hr
    have HCP := Lib.hid hCP
    clear hp hq hr hS hQ hR hCP HST
    obtain ⟨i0, hi, hz0, hz1, hz2⟩ := info_parts infoNd
    go_wp2_with fail
    go_loopw [4] (fun i wr => ∃ (k : Nat) (vk : Value), k ≤ n.kids.length ∧ i = .int .i64 k ∧ CpS w p q r L B n b cap vk k wr) (fun i _ => n.kids.length - (intOf i).toNat)
    case atStart => exact ⟨0, _, Nat.zero_le _, rfl, HCP.out⟩
    case round =>
      clear HCP
      obtain ⟨k, vk, hkl, rfl, hcp⟩ := hrel
      have HCP := Lib.hid hcp
      obtain ⟨d0, d1, d2, d3, d4, g0, g1, g2, g3, g4⟩ := NdBox.facts hcp.st.box
      obtain ⟨x0, x1, x2, x3, x4, y0, y1, y2, y3, y4⟩ := NdBoxV.facts hcp.out
      by_cases hlt : k < n.kids.length
      · obtain ⟨g, off, b', cap', rfl, hgB, c0, c1, c2, c3, c4, hkv⟩ := RowP_cells hcp.st.row k hlt
        have hBw := Nat.le_trans hcp.st.hB hcp.st.bel.size
        have HCALL := Lib.hid (fun (W : World) (hW : Below wr.heap.size wr W) => copy_use hcp hkl hW (HIH.out W k hlt _ (NdV_bel hkv (hW.mono hBw)) (Nat.le_trans hBw hW.size)))
        have hrl := hcp.hr
        have hpl := hcp.st.box.lt
        have hqr := hcp.qr
        have hwr := Nat.le_trans hcp.st.hp (Nat.le_of_lt (Nat.lt_trans hcp.pq hcp.qr))
        have hkl2 : (n.kids.take k).length = k := by rw [List.length_take]; omega
        generalize hkid : n.kids[k] = x at *
        have HX := Lib.hid hkid
        have HKL := Lib.hid hkl2
        clear hcp hkid hkv hkl2
        go_upto_region 6 with fail
        go_region_law (first | ((go_simp; (with_reducible refine (HCALL.out _ (Below.drew (Below.refl _ _))).mono ?_); rintro e w2 ⟨bu, cu, rfl, hru, hb2, hkr2, hln2, e2, f2, hs2⟩; have HLN := Lib.hid hln2; clear hln2)) | ((refine step_append_lies _ (by rfl) _ _ _ (by rfl) (r + 1) 24 i0 _ 5 64 (by kernel_rfl) hi hz0 hz1 hz2 (by rfl) (by decide) vk k hkr2.cells (by rfl) ((hkr2.own HLN.out).alloc _) ⟨w2.heap.size, 0, none⟩ 1 1 [.int .i64 x.kind, .string x.text, .slice bu x.kids.length cu, .int .i64 x.from', .int .i64 x.till] (by rfl) (by rfl) (World.news_of_block (heap_alloc_new _ _)) five_one (by decide) (by unfold maxLen; omega) (by omega) (by rw [World.size_alloc]; omega) (w2.heap.size + 1) (by simp) ?_; intro g1 cap1 w3 hown3 hgrow3 hat3 hlt3; have b3 := push_far hgrow3 (hkr2.own HLN.out) hs2; have e3 := (World.cell?_of_block (a := ⟨r, 2, none⟩) b3).trans e2; have f3 := (World.frozen?_of_block (a := ⟨r, 2, none⟩) b3).trans f2)))
        all_goals
          have hst3 := CpS.step HCP.out hlt HX.out hb2 hru hkr2 HKL.out hown3 hgrow3 hat3 hs2
          have HST3 := Lib.hid hst3
          clear hst3 hown3 hgrow3 hat3 hkr2 hru hb2
          go_wp2_with fail
          go_roundw
          case rel => exact ⟨k + 1, _, hlt, by go_num, HST3.out⟩
          case measure => simp [intOf]; omega
      · obtain rfl : k = n.kids.length := by omega
        obtain ⟨b', cap', rfl, hnv, hbel, hbox⟩ := hcp.done
        obtain ⟨u0, u1, u2, u3, u4, v0, v1, v2, v3, v4⟩ := NdBoxV.facts hcp.res
        have HNV := Lib.hid hnv
        have HBE := Lib.hid hbel
        have HBX := Lib.hid hbox
        clear hcp hnv hbel hbox
        go_wp2_with fail
        refine bodyPost_ret (results_nd rfl _ _ q rfl HBX.out) rfl ?_
        exact ⟨_, rfl, HNV.out, HBE.out⟩
end Go.Proofs.YteejjkfmmhegmaaGreatDoor
