/- Trees in plain Lean: what package ast computes of them; and how they lie in memory. -/
import Derived.Test.YteejjkfmmhegmaaGreatDoorBase
namespace Go.Proofs.YteejjkfmmhegmaaGreatDoor
open Go.RowKit

inductive Nd where
  | mk (kind : Int) (text : ByteArray) (kids : List Nd) (from' till : Int)
def Nd.kind : Nd → Int | .mk k _ _ _ _ => k
def Nd.text : Nd → ByteArray | .mk _ t _ _ _ => t
def Nd.kids : Nd → List Nd | .mk _ _ ks _ _ => ks
def Nd.from' : Nd → Int | .mk _ _ _ f _ => f
def Nd.till : Nd → Int | .mk _ _ _ _ t => t
def Nd.zero : Nd := .mk 0 ⟨#[]⟩ [] 0 0
mutual
def ndSize : Nd → Nat
  | .mk _ _ ks _ _ => 1 + ndSizes ks
def ndSizes : List Nd → Nat
  | [] => 0
  | k :: ks => ndSize k + ndSizes ks
end
mutual
def ndDeep : Nd → Nat
  | .mk _ _ ks _ _ => 1 + ndDeeps ks
def ndDeeps : List Nd → Nat
  | [] => 0
  | k :: ks => max (ndDeep k) (ndDeeps ks)
end
theorem ndSize_eq (n : Nd) : ndSize n = 1 + ndSizes n.kids := by cases n; rw [ndSize]; rfl
theorem ndDeep_eq (n : Nd) : ndDeep n = 1 + ndDeeps n.kids := by cases n; rw [ndDeep]; rfl
theorem ndSizes_mem : ∀ {ks : List Nd} {x : Nd}, x ∈ ks → ndSize x ≤ ndSizes ks
  | [], _, h => by cases h
  | k :: ks, x, h => by
    rw [ndSizes]
    rcases List.mem_cons.1 h with rfl | h
    · omega
    · have := ndSizes_mem h; omega
theorem Nd.ind {P : Nd → Prop} (h : ∀ n, (∀ x ∈ n.kids, P x) → P n) (n : Nd) : P n := by
  have key : ∀ m n, ndSize n ≤ m → P n := by
    intro m
    induction m with
    | zero => intro n hn; rw [ndSize_eq] at hn; omega
    | succ m ih =>
      intro n hn
      refine h n fun x hx => ih x ?_
      have := ndSizes_mem hx
      rw [ndSize_eq] at hn
      omega
  exact key _ n (Nat.le_refl _)
theorem kids_len : ∀ ks : List Nd, ks.length ≤ ndSizes ks
  | [] => Nat.le_refl _
  | k :: ks => by
    rw [ndSizes, List.length_cons, ndSize_eq]
    have := kids_len ks
    omega
theorem deeps_le : ∀ ks : List Nd, (∀ x ∈ ks, ndDeep x ≤ ndSize x) → ndDeeps ks ≤ ndSizes ks
  | [], _ => Nat.le_refl _
  | k :: ks, h => by
    rw [ndDeeps, ndSizes]
    have h1 := h k (.head _)
    have h2 := deeps_le ks (fun x hx => h x (.tail _ hx))
    omega
theorem deep_le (n : Nd) : ndDeep n ≤ ndSize n := by
  induction n using Nd.ind with
  | h n ih =>
    rw [ndDeep_eq, ndSize_eq]
    have := deeps_le n.kids ih
    omega
/- at most so deep. -/
mutual
def shal : Nat → Nd → Bool
  | 0, _ => false
  | l + 1, .mk _ _ ks _ _ => shals l ks
def shals : Nat → List Nd → Bool
  | _, [] => true
  | l, k :: ks => shal l k && shals l ks
end
theorem shal_succ (l : Nat) (n : Nd) : shal (l + 1) n = shals l n.kids := by cases n; rw [shal]; rfl
theorem shal_zero (n : Nd) : shal 0 n = false := by cases n; rw [shal]
theorem shals_all (l : Nat) : ∀ ks : List Nd, shals l ks = ks.all (shal l)
  | [] => by rw [shals]; rfl
  | k :: ks => by rw [shals, List.all_cons, shals_all l ks]
/- the same, but for places. -/
mutual
def sameNd : Nd → Nd → Bool
  | .mk k t ks _ _, b => decide (k = b.kind) && decide (t = b.text) && decide (ks.length = b.kids.length) && sameNds ks b.kids
def sameNds : List Nd → List Nd → Bool
  | [], _ => true
  | _ :: _, [] => true
  | a :: xs, b :: ys => sameNd a b && sameNds xs ys
end
theorem sameNd_eq (a b : Nd) : sameNd a b = (decide (a.kind = b.kind) && decide (a.text = b.text) && decide (a.kids.length = b.kids.length) && sameNds a.kids b.kids) := by cases a; rw [sameNd]; rfl
theorem sameNds_get : ∀ {xs ys : List Nd}, xs.length = ys.length → (sameNds xs ys = true ↔ ∀ i, (h : i < xs.length) → (h2 : i < ys.length) → sameNd xs[i] ys[i] = true)
  | [], [], _ => by simp [sameNds]
  | [], _ :: _, h => by simp at h
  | _ :: _, [], h => by simp at h
  | a :: xs, b :: ys, h => by
    simp only [List.length_cons, Nat.add_right_cancel_iff] at h
    rw [sameNds, Bool.and_eq_true, sameNds_get h]
    constructor
    · rintro ⟨h1, h2⟩ i hi hj
      cases i with
      | zero => exact h1
      | succ i => exact h2 i (by simpa using hi) (by simpa using hj)
    · intro h3
      exact ⟨h3 0 (by simp) (by simp), fun i hi hj => h3 (i + 1) (by simpa using hi) (by simpa using hj)⟩
theorem sameNd_iff (a b : Nd) : sameNd a b = true ↔ a.kind = b.kind ∧ a.text = b.text ∧ a.kids.length = b.kids.length ∧ ∀ i, (h : i < a.kids.length) → (h2 : i < b.kids.length) → sameNd a.kids[i] b.kids[i] = true := by
  rw [sameNd_eq]
  simp only [Bool.and_eq_true, decide_eq_true_eq]
  constructor
  · rintro ⟨⟨⟨h1, h2⟩, h3⟩, h4⟩
    exact ⟨h1, h2, h3, (sameNds_get h3).1 h4⟩
  · rintro ⟨h1, h2, h3, h4⟩
    exact ⟨⟨⟨h1, h2⟩, h3⟩, (sameNds_get h3).2 h4⟩
theorem sameNd_refl (a : Nd) : sameNd a a = true := by
  induction a using Nd.ind with
  | h n ih => exact (sameNd_iff n n).2 ⟨rfl, rfl, rfl, fun i h _ => ih _ (List.getElem_mem h)⟩
theorem sameNd_symm_true (a : Nd) : ∀ b, sameNd a b = true → sameNd b a = true := by
  induction a using Nd.ind with
  | h n ih =>
    intro b h
    obtain ⟨h1, h2, h3, h4⟩ := (sameNd_iff n b).1 h
    exact (sameNd_iff b n).2 ⟨h1.symm, h2.symm, h3.symm, fun i hi hj => ih _ (List.getElem_mem hj) _ (h4 i hj hi)⟩
theorem sameNd_symm (a b : Nd) : sameNd a b = sameNd b a := by
  rw [Bool.eq_iff_iff]
  exact ⟨sameNd_symm_true a b, sameNd_symm_true b a⟩
/- without Parens and places. -/
mutual
def bareNd : Nd → Nd
  | .mk k t ks _ _ => if k = 26 then bareFst ks else .mk k t (bareNds ks) 0 0
def bareFst : List Nd → Nd
  | [] => .zero
  | k :: _ => bareNd k
def bareNds : List Nd → List Nd
  | [] => []
  | k :: ks => bareNd k :: bareNds ks
end
theorem bareNds_map : ∀ ks : List Nd, bareNds ks = ks.map bareNd
  | [] => by rw [bareNds]; rfl
  | k :: ks => by rw [bareNds, List.map_cons, bareNds_map ks]
theorem bareNd_eq (n : Nd) : bareNd n = if n.kind = 26 then bareFst n.kids else .mk n.kind n.text (n.kids.map bareNd) 0 0 := by
  cases n
  rw [bareNd, ← bareNds_map]
  rfl
/-- a node's five cells. -/
def ndCells (k : Int) (t : ByteArray) (b : Option Addr) (n cap : Nat) (f u : Int) : Array Value := #[.int .i64 k, .string t, .slice b n cap, .int .i64 f, .int .i64 u]
/- a node lies at a place; its kids lie in blocks from L up to B. -/
mutual
def NdC (w : World) (L B : Nat) : Nd → Nat → Nat → Prop
  | .mk k t ks f u, g, o => ∃ b cap, L ≤ g ∧ g < B ∧ w.cell? ⟨g, o, none⟩ = some (.int .i64 k) ∧ w.cell? ⟨g, o + 1, none⟩ = some (.string t) ∧
      w.cell? ⟨g, o + 2, none⟩ = some (.slice b ks.length cap) ∧ w.cell? ⟨g, o + 3, none⟩ = some (.int .i64 f) ∧ w.cell? ⟨g, o + 4, none⟩ = some (.int .i64 u) ∧ ks.length ≤ cap ∧ RowP w L B ks b 0
def RowP (w : World) (L B : Nat) : List Nd → Option Addr → Nat → Prop
  | [], _, _ => True
  | k :: ks, a, i => (∃ g off, a = some ⟨g, off, none⟩ ∧ NdC w L B k g (off + i * 5)) ∧ RowP w L B ks a (i + 1)
end
theorem NdC_eq (w : World) (L B : Nat) (n : Nd) (g o : Nat) : NdC w L B n g o = ∃ b cap, L ≤ g ∧ g < B ∧ w.cell? ⟨g, o, none⟩ = some (.int .i64 n.kind) ∧ w.cell? ⟨g, o + 1, none⟩ = some (.string n.text) ∧
      w.cell? ⟨g, o + 2, none⟩ = some (.slice b n.kids.length cap) ∧ w.cell? ⟨g, o + 3, none⟩ = some (.int .i64 n.from') ∧ w.cell? ⟨g, o + 4, none⟩ = some (.int .i64 n.till) ∧ n.kids.length ≤ cap ∧ RowP w L B n.kids b 0 := by
  cases n
  rw [NdC]
  rfl
theorem RowP_get {w : World} {L B : Nat} {a : Option Addr} : ∀ {ks : List Nd} {i : Nat}, RowP w L B ks a i → ∀ j, (h : j < ks.length) → ∃ g off, a = some ⟨g, off, none⟩ ∧ NdC w L B ks[j] g (off + (i + j) * 5)
  | [], _, _, j, h => absurd h (by simp)
  | k :: ks, i, hr, j, h => by
    rw [RowP] at hr
    cases j with
    | zero => exact hr.1
    | succ j =>
      have := RowP_get hr.2 j (by simpa using h)
      rw [show i + 1 + j = i + (j + 1) by omega] at this
      exact this
theorem RowP_of {w : World} {L B : Nat} {a : Option Addr} : ∀ {ks : List Nd} {i : Nat}, (∀ j, (h : j < ks.length) → ∃ g off, a = some ⟨g, off, none⟩ ∧ NdC w L B ks[j] g (off + (i + j) * 5)) → RowP w L B ks a i
  | [], _, _ => by rw [RowP]; trivial
  | k :: ks, i, h => by
    rw [RowP]
    refine ⟨h 0 (by simp), RowP_of fun j hj => ?_⟩
    have := h (j + 1) (by simpa using hj)
    rw [show i + 1 + j = i + (j + 1) by omega]
    exact this
theorem NdC_keep {w w' : World} {L B L' B' : Nat} (hL : L' ≤ L) (hB : B ≤ B') (hk : ∀ k, L ≤ k → k < B → w'.heap[k]? = w.heap[k]?) (n : Nd) : ∀ g o, NdC w L B n g o → NdC w' L' B' n g o := by
  induction n using Nd.ind with
  | h n ih =>
    intro g o h
    rw [NdC_eq] at h ⊢
    obtain ⟨b, cap, h2, h3, c0, c1, c2, c3, c4, hc, hr⟩ := h
    have hcell : ∀ o, w'.cell? ⟨g, o, none⟩ = w.cell? ⟨g, o, none⟩ := fun o => World.cell?_of_block (hk g h2 h3)
    refine ⟨b, cap, by omega, by omega, ?_, ?_, ?_, ?_, ?_, hc, RowP_of fun j hj => ?_⟩
    · rw [hcell]; exact c0
    · rw [hcell]; exact c1
    · rw [hcell]; exact c2
    · rw [hcell]; exact c3
    · rw [hcell]; exact c4
    · obtain ⟨g', off, ha, hn⟩ := RowP_get hr j hj
      exact ⟨g', off, ha, ih _ (List.getElem_mem hj) _ _ hn⟩
theorem RowP_keep {w w' : World} {L B L' B' : Nat} (hL : L' ≤ L) (hB : B ≤ B') (hk : ∀ k, L ≤ k → k < B → w'.heap[k]? = w.heap[k]?) {ks : List Nd} {a : Option Addr} {i : Nat} (h : RowP w L B ks a i) : RowP w' L' B' ks a i :=
  RowP_of fun j hj => by
    obtain ⟨g, off, ha, hn⟩ := RowP_get h j hj
    exact ⟨g, off, ha, NdC_keep hL hB hk _ _ _ hn⟩
theorem NdC_bel {w w' : World} {L B : Nat} {n : Nd} {g o : Nat} (h : NdC w L B n g o) (hb : Below B w w') : NdC w' L B n g o := NdC_keep (Nat.le_refl _) (Nat.le_refl _) (fun k _ hk => hb.block k hk) _ _ _ h
theorem RowP_bel {w w' : World} {L B : Nat} {ks : List Nd} {a : Option Addr} {i : Nat} (h : RowP w L B ks a i) (hb : Below B w w') : RowP w' L B ks a i := RowP_keep (Nat.le_refl _) (Nat.le_refl _) (fun k _ hk => hb.block k hk) h
/-- a node's value. -/
def NdV (w : World) (L B : Nat) (n : Nd) (v : Value) : Prop := ∃ b cap, v = .agg (ndCells n.kind n.text b n.kids.length cap n.from' n.till) ∧ n.kids.length ≤ cap ∧ RowP w L B n.kids b 0
theorem NdV_bel {w w' : World} {L B : Nat} {n : Nd} {v : Value} (h : NdV w L B n v) (hb : Below B w w') : NdV w' L B n v := by
  obtain ⟨b, cap, h1, h2, h3⟩ := h
  exact ⟨b, cap, h1, h2, RowP_bel h3 hb⟩
/-- a node in a block of its own. -/
def NdBox (w : World) (p : Nat) (k : Int) (t : ByteArray) (b : Option Addr) (n cap : Nat) (f u : Int) : Prop := w.heap[p]? = some (.cells (ndCells k t b n cap f u) 24 (0, 0))
theorem NdBox.lt {w : World} {p : Nat} {k : Int} {t : ByteArray} {b : Option Addr} {n cap : Nat} {f u : Int} (h : NdBox w p k t b n cap f u) : p < w.heap.size := (Array.getElem?_eq_some_iff.1 h).1
theorem NdBox.bel {w w' : World} {B p : Nat} {k : Int} {t : ByteArray} {b : Option Addr} {n cap : Nat} {f u : Int} (h : NdBox w p k t b n cap f u) (hb : Below B w w') (hp : p < B) : NdBox w' p k t b n cap f u := (hb.block p hp).trans h
theorem NdBox.facts {w : World} {p : Nat} {k : Int} {t : ByteArray} {b : Option Addr} {n cap : Nat} {f u : Int} (h : NdBox w p k t b n cap f u) :
    w.cell? ⟨p, 0, none⟩ = some (.int .i64 k) ∧ w.cell? ⟨p, 1, none⟩ = some (.string t) ∧ w.cell? ⟨p, 2, none⟩ = some (.slice b n cap) ∧ w.cell? ⟨p, 3, none⟩ = some (.int .i64 f) ∧ w.cell? ⟨p, 4, none⟩ = some (.int .i64 u) ∧
    w.frozen? ⟨p, 0, none⟩ = false ∧ w.frozen? ⟨p, 1, none⟩ = false ∧ w.frozen? ⟨p, 2, none⟩ = false ∧ w.frozen? ⟨p, 3, none⟩ = false ∧ w.frozen? ⟨p, 4, none⟩ = false := by
  have hc := fun o => cell_of_row w p o _ _ (0, 0) h
  have hf := fun o => frozen_of_row w p o _ _ h
  exact ⟨hc 0, hc 1, hc 2, hc 3, hc 4, hf 0, hf 1, hf 2, hf 3, hf 4⟩
/- the depths, in preorder. -/
mutual
def preD : Nat → Nd → List Nat
  | d, .mk _ _ ks _ _ => d :: preDs (d + 1) ks
def preDs : Nat → List Nd → List Nat
  | _, [] => []
  | d, k :: ks => preD d k ++ preDs d ks
end
theorem preD_eq (d : Nat) (n : Nd) : preD d n = d :: preDs (d + 1) n.kids := by cases n; rw [preD]; rfl
theorem preDs_len (d : Nat) : ∀ ks : List Nd, (∀ x ∈ ks, (preD d x).length = ndSize x) → (preDs d ks).length = ndSizes ks
  | [], _ => by rw [preDs, ndSizes]; rfl
  | k :: ks, h => by rw [preDs, ndSizes, List.length_append, h k (.head _), preDs_len d ks (fun x hx => h x (.tail _ hx))]
theorem preD_len (n : Nd) : ∀ d, (preD d n).length = ndSize n := by
  induction n using Nd.ind with
  | h n ih =>
    intro d
    rw [preD_eq, ndSize_eq, List.length_cons, preDs_len (d + 1) n.kids (fun x hx => ih x hx (d + 1))]
    omega
theorem foldl_max (l : List Nat) : ∀ a, l.foldl max a = max a (l.foldl max 0) := by
  induction l with
  | nil => intro a; simp
  | cons x l ih =>
    intro a
    rw [List.foldl_cons, List.foldl_cons, ih (max a x), ih (max 0 x)]
    omega
theorem preDs_max (d : Nat) : ∀ ks : List Nd, (∀ x ∈ ks, (preD d x).foldl max 0 = d + ndDeep x - 1) → (preDs d ks).foldl max 0 = if ks = [] then 0 else d + ndDeeps ks - 1
  | [], _ => by rw [preDs]; rfl
  | k :: ks, h => by
    rw [preDs, ndDeeps, List.foldl_append, h k (.head _), foldl_max, preDs_max d ks (fun x hx => h x (.tail _ hx)), if_neg (show ¬ (k :: ks = []) by simp)]
    have h1 : 1 ≤ ndDeep k := by rw [ndDeep_eq]; omega
    split
    · rename_i e
      rw [e, ndDeeps]
      omega
    · omega
theorem preD_max (n : Nd) : ∀ d, (preD d n).foldl max 0 = d + ndDeep n - 1 := by
  induction n using Nd.ind with
  | h n ih =>
    intro d
    rw [preD_eq, ndDeep_eq, List.foldl_cons, foldl_max, preDs_max (d + 1) n.kids (fun x hx => ih x hx (d + 1))]
    split
    · rename_i e
      rw [e, ndDeeps]
      omega
    · omega
end Go.Proofs.YteejjkfmmhegmaaGreatDoor
