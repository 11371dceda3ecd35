/- Trees lent with marked room behind each row: contracts of LendNode, roomNode, KeptNode, ShallowNode. Condition: at most 2^20 nodes. -/
import Derived.Test.YteejjkfmmhegmaaGreatDoorBp
import Derived.StillTailTactics
namespace Go.Proofs.YteejjkfmmhegmaaGreatDoor
open Go.RowKit

/-- the mark. -/
def mk7 : Nd := .mk (-7) ⟨#[]⟩ [] 0 0
/-- two marks behind m nodes. -/
def Mk7 (w : World) (L B : Nat) (b : Option Addr) (m : Nat) : Prop := ∃ g off, b = some ⟨g, off, none⟩ ∧ NdC w L B mk7 g (off + m * 5) ∧ NdC w L B mk7 g (off + (m + 1) * 5)
theorem Mk7.keep {w w' : World} {L B L' B' : Nat} (hL : L' ≤ L) (hB : B ≤ B') (hk : ∀ k, L ≤ k → k < B → w'.heap[k]? = w.heap[k]?) {b : Option Addr} {m : Nat} (h : Mk7 w L B b m) : Mk7 w' L' B' b m := by
  obtain ⟨g, off, e, h1, h2⟩ := h
  exact ⟨g, off, e, NdC_keep hL hB hk _ _ _ h1, NdC_keep hL hB hk _ _ _ h2⟩
/- a node at a place, each row with marked room behind it. -/
mutual
def LnC (w : World) (L B : Nat) : Nd → Nat → Nat → Prop
  | .mk k t ks f u, g, o => ∃ b cap, L ≤ g ∧ g < B ∧ w.cell? ⟨g, o, none⟩ = some (.int .i64 k) ∧ w.cell? ⟨g, o + 1, none⟩ = some (.string t) ∧
      w.cell? ⟨g, o + 2, none⟩ = some (.slice b ks.length cap) ∧ w.cell? ⟨g, o + 3, none⟩ = some (.int .i64 f) ∧ w.cell? ⟨g, o + 4, none⟩ = some (.int .i64 u) ∧ ks.length + 2 ≤ cap ∧ LnR w L B ks b 0 ∧ Mk7 w L B b ks.length
def LnR (w : World) (L B : Nat) : List Nd → Option Addr → Nat → Prop
  | [], _, _ => True
  | k :: ks, a, i => (∃ g off, a = some ⟨g, off, none⟩ ∧ LnC w L B k g (off + i * 5)) ∧ LnR w L B ks a (i + 1)
end
theorem LnC_eq (w : World) (L B : Nat) (n : Nd) (g o : Nat) : LnC w L B n g o = ∃ b cap, L ≤ g ∧ g < B ∧ w.cell? ⟨g, o, none⟩ = some (.int .i64 n.kind) ∧ w.cell? ⟨g, o + 1, none⟩ = some (.string n.text) ∧
      w.cell? ⟨g, o + 2, none⟩ = some (.slice b n.kids.length cap) ∧ w.cell? ⟨g, o + 3, none⟩ = some (.int .i64 n.from') ∧ w.cell? ⟨g, o + 4, none⟩ = some (.int .i64 n.till) ∧ n.kids.length + 2 ≤ cap ∧ LnR w L B n.kids b 0 ∧ Mk7 w L B b n.kids.length := by
  cases n
  rw [LnC]
  rfl
theorem LnR_get {w : World} {L B : Nat} {a : Option Addr} : ∀ {ks : List Nd} {i : Nat}, LnR w L B ks a i → ∀ j, (h : j < ks.length) → ∃ g off, a = some ⟨g, off, none⟩ ∧ LnC w L B ks[j] g (off + (i + j) * 5)
  | [], _, _, j, h => absurd h (by simp)
  | k :: ks, i, hr, j, h => by
    rw [LnR] at hr
    cases j with
    | zero => exact hr.1
    | succ j =>
      have := LnR_get hr.2 j (by simpa using h)
      rw [show i + 1 + j = i + (j + 1) by omega] at this
      exact this
theorem LnR_of {w : World} {L B : Nat} {a : Option Addr} : ∀ {ks : List Nd} {i : Nat}, (∀ j, (h : j < ks.length) → ∃ g off, a = some ⟨g, off, none⟩ ∧ LnC w L B ks[j] g (off + (i + j) * 5)) → LnR w L B ks a i
  | [], _, _ => by rw [LnR]; trivial
  | k :: ks, i, h => by
    rw [LnR]
    refine ⟨h 0 (by simp), LnR_of fun j hj => ?_⟩
    have := h (j + 1) (by simpa using hj)
    rw [show i + 1 + j = i + (j + 1) by omega]
    exact this
theorem LnC_keep {w w' : World} {L B L' B' : Nat} (hL : L' ≤ L) (hB : B ≤ B') (hk : ∀ k, L ≤ k → k < B → w'.heap[k]? = w.heap[k]?) (n : Nd) : ∀ g o, LnC w L B n g o → LnC w' L' B' n g o := by
  induction n using Nd.ind with
  | h n ih =>
    intro g o h
    rw [LnC_eq] at h ⊢
    obtain ⟨b, cap, h2, h3, c0, c1, c2, c3, c4, hc, hr, hm⟩ := h
    have hcell : ∀ o, w'.cell? ⟨g, o, none⟩ = w.cell? ⟨g, o, none⟩ := fun o => World.cell?_of_block (hk g h2 h3)
    refine ⟨b, cap, by omega, by omega, ?_, ?_, ?_, ?_, ?_, hc, LnR_of fun j hj => ?_, hm.keep hL hB hk⟩
    · rw [hcell]; exact c0
    · rw [hcell]; exact c1
    · rw [hcell]; exact c2
    · rw [hcell]; exact c3
    · rw [hcell]; exact c4
    · obtain ⟨g', off, ha, hn⟩ := LnR_get hr j hj
      exact ⟨g', off, ha, ih _ (List.getElem_mem hj) _ _ hn⟩
theorem LnR_keep {w w' : World} {L B L' B' : Nat} (hL : L' ≤ L) (hB : B ≤ B') (hk : ∀ k, L ≤ k → k < B → w'.heap[k]? = w.heap[k]?) {ks : List Nd} {a : Option Addr} {i : Nat} (h : LnR w L B ks a i) : LnR w' L' B' ks a i :=
  LnR_of fun j hj => by
    obtain ⟨g, off, ha, hn⟩ := LnR_get h j hj
    exact ⟨g, off, ha, LnC_keep hL hB hk _ _ _ hn⟩
theorem LnC.ndc {w : World} {L B : Nat} (n : Nd) : ∀ g o, LnC w L B n g o → NdC w L B n g o := by
  induction n using Nd.ind with
  | h n ih =>
    intro g o h
    rw [LnC_eq] at h
    rw [NdC_eq]
    obtain ⟨b, cap, h2, h3, c0, c1, c2, c3, c4, hc, hr, hm⟩ := h
    exact ⟨b, cap, h2, h3, c0, c1, c2, c3, c4, by omega, RowP_of fun j hj => by
      obtain ⟨g', off, ha, hn⟩ := LnR_get hr j hj
      exact ⟨g', off, ha, ih _ (List.getElem_mem hj) _ _ hn⟩⟩
theorem LnR.rowP {w : World} {L B : Nat} {ks : List Nd} {a : Option Addr} {i : Nat} (h : LnR w L B ks a i) : RowP w L B ks a i :=
  RowP_of fun j hj => by
    obtain ⟨g, off, ha, hn⟩ := LnR_get h j hj
    exact ⟨g, off, ha, LnC.ndc _ _ _ hn⟩
/-- a kid's row, lent. -/
def RowLn (w : World) (L B : Nat) (x : Nd) (b : Option Addr) (c : Nat) : Prop := x.kids.length + 2 ≤ c ∧ LnR w L B x.kids b 0 ∧ Mk7 w L B b x.kids.length
theorem RowLn.keeps : Keeps RowLn := ⟨fun hL hB hk ⟨h1, h2, h3⟩ => ⟨h1, LnR_keep hL hB hk h2, h3.keep hL hB hk⟩⟩
/-- a lent node's value. -/
def LnV (w : World) (L B : Nat) (n : Nd) (v : Value) : Prop := ∃ b cap, v = .agg #[.int .i64 n.kind, .string n.text, .slice b n.kids.length cap, .int .i64 n.from', .int .i64 n.till] ∧ RowLn w L B n b cap
theorem LnV.v {w : World} {L B : Nat} {n : Nd} {v : Value} (h : LnV w L B n v) : NdV w L B n v := by
  obtain ⟨b, cap, h1, h2, h3, _⟩ := h
  exact ⟨b, cap, h1, by omega, h3.rowP⟩
theorem LnV.bel {w w' : World} {L B : Nat} {n : Nd} {v : Value} (h : LnV w L B n v) (hb : Below B w w') : LnV w' L B n v := by
  obtain ⟨b, cap, h1, h2⟩ := h
  exact ⟨b, cap, h1, RowLn.keeps.k (Nat.le_refl _) (Nat.le_refl _) (fun k _ hk => hb.block k hk) h2⟩
/-- two marks' cells. -/
def mk7s : List Value := [.int .i64 (-7), .string ⟨#[]⟩, .slice none 0 0, .int .i64 0, .int .i64 0, .int .i64 (-7), .string ⟨#[]⟩, .slice none 0 0, .int .i64 0, .int .i64 0]
/-- the row with its marks. -/
theorem KRow.mark {w1 w2 : World} {base m : Nat} {v : Value} {xs : List Nd} {g cap2 : Nat} {o : Obj} (h : KRow RowLn w1 base v xs) (hm : xs.length = m)
    (ho : w2.ownsRow base 24 5 (.slice (some ⟨g, 0, none⟩) (m + 2) cap2) (m + 2) (h.cells ++ mk7s)) (hg : (w1.alloc o).grownBy w2 v.ownBlock) :
    m + 2 ≤ cap2 ∧ LnR w2 base w2.heap.size xs (some ⟨g, 0, none⟩) 0 ∧ Mk7 w2 base w2.heap.size (some ⟨g, 0, none⟩) m := by
  subst hm
  unfold KRow.cells at ho
  obtain ⟨h1, h2, h3⟩ := Classical.choose_spec h
  generalize Classical.choose h = bs at *
  have hsz : (w1.alloc o).heap.size = w1.heap.size + 1 := World.size_alloc _ _
  have hgs := hg.size
  have hold : ∀ k, k < w1.heap.size → v.ownBlock ≠ some k → w2.heap[k]? = w1.heap[k]? := fun k hk hne => (hg.block k (by omega) (fun e => hne e.symm)).trans (Below.heap_alloc _ _ _ hk)
  rcases ho.2 with ⟨hv, h0⟩ | ⟨g', cap, cur, hv, hgb, hc, hn, hrest⟩
  · cases hv
  have e1 : g' = g := by
    simp only [Value.slice.injEq, Option.some.injEq, Addr.mk.injEq] at hv
    exact hv.1.1.symm
  have e2 : cap = cap2 := by
    simp only [Value.slice.injEq] at hv
    exact hv.2.2.symm
  subst e1 e2
  have hlt := (Array.getElem?_eq_some_iff.1 hc).1
  have hkl := kidCells_len xs bs h1
  have hleft : ∀ j i, (hj : j < xs.length) → i < 5 → w2.cell? ⟨g', j * 5 + i, none⟩ = (ndCells xs[j].kind xs[j].text (bs[j]'(by omega)).1 xs[j].kids.length (bs[j]'(by omega)).2 xs[j].from' xs[j].till)[i]? := fun j i hj hi => by
    rw [ho.cellAt (j * 5 + i) (by omega), List.getElem?_append_left (by omega)]
    exact kidCells_get xs bs h1 j i hj hi
  have hright : ∀ i, i < 10 → w2.cell? ⟨g', xs.length * 5 + i, none⟩ = mk7s[i]? := fun i hi => by
    rw [ho.cellAt (xs.length * 5 + i) (by omega), List.getElem?_append_right (by omega), hkl]
    congr 1
    omega
  refine ⟨hn, LnR_of fun j hj => ⟨g', 0, rfl, ?_⟩, g', 0, rfl, ?_, ?_⟩
  · rw [Nat.zero_add, Nat.zero_add, LnC_eq]
    have hbj : j < bs.length := by omega
    obtain ⟨L', B', c1, c2, c3, c4⟩ := h3 j hj hbj
    have c5 : RowLn w2 base w2.heap.size xs[j] bs[j].1 bs[j].2 := RowLn.keeps.k c1 (by omega) (fun k k1 k2 => hold k (by omega) (fun e => by rcases c3 k e with h | h <;> omega)) c4
    exact ⟨_, _, hgb, hlt, hleft j 0 hj (by decide), hleft j 1 hj (by decide), hleft j 2 hj (by decide), hleft j 3 hj (by decide), hleft j 4 hj (by decide), c5⟩
  · rw [Nat.zero_add, NdC_eq]
    exact ⟨none, 0, hgb, hlt, hright 0 (by decide), hright 1 (by decide), hright 2 (by decide), hright 3 (by decide), hright 4 (by decide), Nat.le_refl _, by show RowP _ _ _ [] _ _; rw [RowP]; trivial⟩
  · rw [Nat.zero_add, NdC_eq, show (xs.length + 1) * 5 = xs.length * 5 + 5 by omega]
    exact ⟨none, 0, hgb, hlt, hright 5 (by decide), hright 6 (by decide), hright 7 (by decide), hright 8 (by decide), hright 9 (by decide), Nat.le_refl _, by show RowP _ _ _ [] _ _; rw [RowP]; trivial⟩
/-- lending under way: the node's box, the result's, the answer's; k kids are lent. -/
structure LeS (w0 : World) (p q r L B : Nat) (n : Nd) (b : Option Addr) (cap : Nat) (vk : Value) (xs : List Nd) (wr : World) : Prop where
  st : NSt w0 p L B n b cap wr
  res : NdBoxV wr q 0 ⟨#[]⟩ (.slice none 0 0) 0 0
  out : NdBoxV wr r n.kind n.text (.slice b n.kids.length cap) n.from' n.till
  kr : KRow RowLn wr (r + 1) vk xs
  pq : p < q
  qr : q < r
  hr : r < wr.heap.size
theorem LeS.bel' {w0 wr w' : World} {p q r L B : Nat} {n : Nd} {b : Option Addr} {cap : Nat} {vk : Value} {xs : List Nd} (h : LeS w0 p q r L B n b cap vk xs wr) (hb : Below wr.heap.size wr w') : LeS w0 p q r L B n b cap vk xs w' :=
  ⟨h.st.bel' hb, h.res.bel hb, h.out.bel hb, h.kr.bel RowLn.keeps hb, h.pq, h.qr, Nat.lt_of_lt_of_le h.hr hb.size⟩
theorem push_far' {w2 w3 : World} {o : Obj} {v : Value} {r n i : Nat} {ys : List Value} (hg : (w2.alloc o).grownBy w3 v.ownBlock) (ho : w2.ownsRow (r + 1) 24 5 v n ys) (hr : r < w2.heap.size) (hi : i ≤ r) : w3.heap[i]? = w2.heap[i]? := by
  refine (hg.block i (by rw [World.size_alloc]; omega) (fun e => ?_)).trans (Below.heap_alloc _ _ _ (by omega))
  have := (ho.lt i e.symm).1
  omega
/-- what a round uses of the call. -/
theorem lend_use {f : Nat} {w0 wr W : World} {p q r L B m : Nat} {n x : Nd} {b : Option Addr} {cap : Nat} {vk : Value} {xs : List Nd} {args : Array Value} (h : LeS w0 p q r L B n b cap vk xs wr) (hm : xs.length = m) (hW : Below wr.heap.size wr W)
    (hc : Calls Tryz.prog f args W fun e w' => ∃ u, e = .returned u ∧ LnV w' W.heap.size w'.heap.size x u ∧ Below W.heap.size W w') :
    Calls Tryz.prog f args W fun e w' => ∃ bu cu, e = .returned (.agg #[.int .i64 x.kind, .string x.text, .slice bu x.kids.length cu, .int .i64 x.from', .int .i64 x.till]) ∧ RowLn w' wr.heap.size w'.heap.size x bu cu ∧ Below wr.heap.size wr w' ∧
      KRow RowLn w' (r + 1) vk xs ∧ xs.length = m ∧ r < w'.heap.size := by
  refine hc.mono fun e w' => ?_
  rintro ⟨u, rfl, ⟨bu, cu, rfl, hru⟩, hb⟩
  have hb2 := hW.trans (hb.mono hW.size)
  exact ⟨bu, cu, rfl, RowLn.keeps.k hW.size (Nat.le_refl _) (fun _ _ _ => rfl) hru, hb2, h.kr.bel RowLn.keeps hb2, hm, Nat.lt_of_lt_of_le h.hr hb2.size⟩
/-- a round. -/
theorem LeS.step {w0 wr w2 w3 : World} {p q r L B m : Nat} {n x : Nd} {b bu : Option Addr} {cap cu : Nat} {vk : Value} {xs : List Nd} {g cap1 : Nat} {o : Obj} (h : LeS w0 p q r L B n b cap vk xs wr)
    (hb2 : Below wr.heap.size wr w2) (hru : RowLn w2 wr.heap.size w2.heap.size x bu cu) (hkr2 : KRow RowLn w2 (r + 1) vk xs) (hlen : xs.length = m)
    (ho : w3.ownsRow (r + 1) 24 5 (.slice (some ⟨g, 0, none⟩) (m + 1) cap1) (m + 1) (hkr2.cells ++ (ndCells x.kind x.text bu x.kids.length cu x.from' x.till).toList))
    (hg : (w2.alloc o).grownBy w3 vk.ownBlock) (hat : vk.ownBlock = some g ∨ g = w2.heap.size + 1) (hr : r < w2.heap.size) :
    LeS w0 p q r L B n b cap (.slice (some ⟨g, 0, none⟩) (m + 1) cap1) (xs ++ [x]) w3 := by
  have hown := hkr2.own hlen
  have hpq := h.pq
  have hqr := h.qr
  have hwr := h.hr
  have hst := h.st.hp
  have hlow : Below (r + 1) wr w3 := by
    have h3 : Below (r + 1) w2 w3 := by
      refine ((Below.refl (r + 1) w2).alloc (by omega) o).grown hg (by rw [World.size_alloc]; omega) (fun i e => ?_)
      have := (hown.lt i e).1
      omega
    exact (hb2.mono (by omega)).trans h3
  have hz3 := hg.size
  rw [World.size_alloc] at hz3
  exact ⟨h.st.low (hlow.mono (by omega)) hpq |>.low (Below.refl _ _) (by omega), (hlow.block q (by omega)).trans h.res, (hlow.block r (by omega)).trans h.out,
    KRow.push RowLn.keeps hkr2 hlen (by omega) (fun i e => ((h.kr.own hlen).lt i e).2) (Nat.le_refl _) hru ho hg hat, hpq, hqr, by omega⟩
theorem ten_one : ∀ y ∈ mk7s, y.oneCell' = true := by
  intro y hy
  simp only [mk7s, List.mem_cons, List.not_mem_nil, or_false] at hy
  rcases hy with rfl | rfl | rfl | rfl | rfl | rfl | rfl | rfl | rfl | rfl <;> rfl
/-- all kids are lent: the result. -/
theorem LeS.done {w0 wr w3 : World} {p q r L B m : Nat} {n : Nd} {b : Option Addr} {cap : Nat} {vk : Value} {g cap1 : Nat} {o : Obj} (h : LeS w0 p q r L B n b cap vk n.kids wr) (hlen : n.kids.length = m)
    (ho : w3.ownsRow (r + 1) 24 5 (.slice (some ⟨g, 0, none⟩) (m + 2) cap1) (m + 2) (h.kr.cells ++ mk7s)) (hg : (wr.alloc o).grownBy w3 vk.ownBlock) :
    NdBoxV (w3.setCell ⟨r, 2, none⟩ (.slice (some ⟨g, 0, none⟩) m cap1)) r n.kind n.text (.slice (some ⟨g, 0, none⟩) m cap1) n.from' n.till ∧ NdBoxV (w3.setCell ⟨r, 2, none⟩ (.slice (some ⟨g, 0, none⟩) m cap1)) q 0 ⟨#[]⟩ (.slice none 0 0) 0 0 ∧ q < (w3.setCell ⟨r, 2, none⟩ (.slice (some ⟨g, 0, none⟩) m cap1)).heap.size ∧
      NdBoxV (lay5 (w3.setCell ⟨r, 2, none⟩ (.slice (some ⟨g, 0, none⟩) m cap1)) q n.kind n.text (.slice (some ⟨g, 0, none⟩) m cap1) n.from' n.till) q n.kind n.text (.slice (some ⟨g, 0, none⟩) m cap1) n.from' n.till ∧
      Below w0.heap.size w0 (lay5 (w3.setCell ⟨r, 2, none⟩ (.slice (some ⟨g, 0, none⟩) m cap1)) q n.kind n.text (.slice (some ⟨g, 0, none⟩) m cap1) n.from' n.till) ∧
      LnV (lay5 (w3.setCell ⟨r, 2, none⟩ (.slice (some ⟨g, 0, none⟩) m cap1)) q n.kind n.text (.slice (some ⟨g, 0, none⟩) m cap1) n.from' n.till) w0.heap.size (lay5 (w3.setCell ⟨r, 2, none⟩ (.slice (some ⟨g, 0, none⟩) m cap1)) q n.kind n.text (.slice (some ⟨g, 0, none⟩) m cap1) n.from' n.till).heap.size n (.agg #[.int .i64 n.kind, .string n.text, .slice (some ⟨g, 0, none⟩) m cap1, .int .i64 n.from', .int .i64 n.till]) := by
  have hown := h.kr.own hlen
  have hpq := h.pq
  have hqr := h.qr
  have hwr := h.hr
  have hst := h.st.hp
  have hz3 := hg.size
  rw [World.size_alloc] at hz3
  have h3 : Below (r + 1) wr w3 := by
    refine ((Below.refl (r + 1) wr).alloc (by omega) o).grown hg (by rw [World.size_alloc]; omega) (fun i e => ?_)
    have := (hown.lt i e).1
    omega
  have hlow : Below r wr (w3.setCell ⟨r, 2, none⟩ (.slice (some ⟨g, 0, none⟩) m cap1)) := (show Below r wr w3 from h3.mono (by omega)).setCell (p := ⟨r, 2, none⟩) (Nat.le_refl _) _
  obtain ⟨m1, m2, m3⟩ := h.kr.mark hlen ho hg
  have hq4 : NdBoxV (w3.setCell ⟨r, 2, none⟩ (.slice (some ⟨g, 0, none⟩) m cap1)) q 0 ⟨#[]⟩ (.slice none 0 0) 0 0 := (hlow.block q (by omega)).trans h.res
  have hr3 : w3.heap[r]? = some (.cells #[.int .i64 n.kind, .string n.text, .slice b n.kids.length cap, .int .i64 n.from', .int .i64 n.till] 24 (0, 0)) := (h3.block r (by omega)).trans h.out
  refine ⟨heap_setCell_same w3 r 2 _ 24 (.slice (some ⟨g, 0, none⟩) m cap1) hr3, hq4, hq4.lt, hq4.lay, lay5_bel (h.st.bel.trans (hlow.mono (by omega))) (by omega) _ _ _ _ _, some ⟨g, 0, none⟩, cap1, by rw [hlen], ?_⟩
  rw [lay5_size]
  have hsz : (w3.setCell ⟨r, 2, none⟩ (.slice (some ⟨g, 0, none⟩) m cap1)).heap.size = w3.heap.size := by simp [World.setCell]
  rw [hsz]
  subst hlen
  refine RowLn.keeps.k (w := w3) (L := r + 1) (B := w3.heap.size) (by omega) (Nat.le_refl _) (fun i h4 _ => ?_) ⟨m1, m2, m3⟩
  rw [lay5_block _ _ _ _ _ _ _ _ (by omega)]
  exact Below.heap_setCell _ _ _ _ (by show i ≠ r; omega)
set_option maxRecDepth 20000 in
set_option maxHeartbeats 2000000 in
theorem lend_any (n : Nd) : ∀ (v : Value) (w : World) (L B : Nat), NdV w L B n v → B ≤ w.heap.size → ndSize n ≤ 4194304 →
    Calls Tryz.prog 8 #[v] w fun e w' => ∃ u, e = .returned u ∧ LnV w' w.heap.size w'.heap.size n u ∧ Below w.heap.size w w' := by
  induction n using Nd.ind with
  | h n ih =>
    intro v w L B hv hB hsz
    obtain ⟨b, cap, rfl, hcap, hrow⟩ := hv
    unfold ndCells
    have hkc := kid_count n
    have HIH := Lib.hid (fun (W : World) (j : Nat) (hj : j < n.kids.length) (v : Value) (hu : NdV W L B n.kids[j] v) (hW : B ≤ W.heap.size) => ih _ (List.getElem_mem hj) v W L B hu hW (by have := kid_size hj; omega))
    have HST := Lib.hid (NSt.new (cap := cap) hrow hB)
    clear hrow ih
    go_enter Tryz.func8, Tryz.ntmps8
    go_upto_region 2 with fail
    have hR : NdBoxV (((w.alloc (.cells #[.int .i64 n.kind, .string n.text, .slice b n.kids.length cap, .int .i64 n.from', .int .i64 n.till] 24)).alloc (.cells #[.int .i64 0, .string ⟨#[]⟩, .slice none 0 0, .int .i64 0, .int .i64 0] 24)).alloc (.cells #[.int .i64 n.kind, .string n.text, .slice b n.kids.length cap, .int .i64 n.from', .int .i64 n.till] 24)) (w.heap.size + 1 + 1) n.kind n.text (.slice b n.kids.length cap) n.from' n.till := by
      have := heap_alloc_new ((w.alloc (.cells #[.int .i64 n.kind, .string n.text, .slice b n.kids.length cap, .int .i64 n.from', .int .i64 n.till] 24)).alloc (.cells #[.int .i64 0, .string ⟨#[]⟩, .slice none 0 0, .int .i64 0, .int .i64 0] 24)) (.cells #[.int .i64 n.kind, .string n.text, .slice b n.kids.length cap, .int .i64 n.from', .int .i64 n.till] 24)
      rw [World.size_alloc, World.size_alloc] at this
      exact this
    have hQ : NdBoxV (((w.alloc (.cells #[.int .i64 n.kind, .string n.text, .slice b n.kids.length cap, .int .i64 n.from', .int .i64 n.till] 24)).alloc (.cells #[.int .i64 0, .string ⟨#[]⟩, .slice none 0 0, .int .i64 0, .int .i64 0] 24)).alloc (.cells #[.int .i64 n.kind, .string n.text, .slice b n.kids.length cap, .int .i64 n.from', .int .i64 n.till] 24)) (w.heap.size + 1) 0 ⟨#[]⟩ (.slice none 0 0) 0 0 := by
      have := heap_alloc_new (w.alloc (.cells #[.int .i64 n.kind, .string n.text, .slice b n.kids.length cap, .int .i64 n.from', .int .i64 n.till] 24)) (.cells #[.int .i64 0, .string ⟨#[]⟩, .slice none 0 0, .int .i64 0, .int .i64 0] 24)
      rw [World.size_alloc] at this
      exact (Below.heap_alloc _ _ _ (by rw [World.size_alloc, World.size_alloc]; omega)).trans this
    have hS : NSt w w.heap.size L B n b cap (((w.alloc (.cells #[.int .i64 n.kind, .string n.text, .slice b n.kids.length cap, .int .i64 n.from', .int .i64 n.till] 24)).alloc (.cells #[.int .i64 0, .string ⟨#[]⟩, .slice none 0 0, .int .i64 0, .int .i64 0] 24)).alloc (.cells #[.int .i64 n.kind, .string n.text, .slice b n.kids.length cap, .int .i64 n.from', .int .i64 n.till] 24)) :=
      (HST.out.bel' (Below.alloc (Below.refl _ _) (Nat.le_refl _) _)).bel' (Below.alloc (Below.refl _ _) (Nat.le_refl _) _)
    have hCP : LeS w w.heap.size (w.heap.size + 1) (w.heap.size + 1 + 1) L B n b cap (.slice none 0 0) (n.kids.take 0) (((w.alloc (.cells #[.int .i64 n.kind, .string n.text, .slice b n.kids.length cap, .int .i64 n.from', .int .i64 n.till] 24)).alloc (.cells #[.int .i64 0, .string ⟨#[]⟩, .slice none 0 0, .int .i64 0, .int .i64 0] 24)).alloc (.cells #[.int .i64 n.kind, .string n.text, .slice b n.kids.length cap, .int .i64 n.from', .int .i64 n.till] 24)) :=
      ⟨hS, hQ, hR, KRow.nil _ _ _, by omega, by omega, by rw [World.size_alloc, World.size_alloc, World.size_alloc]; omega⟩
    generalize World.alloc (World.alloc (World.alloc w _) _) _ = w1 at *
    generalize hp : w.heap.size = p at hCP
    generalize hq : p + 1 = q at *
    generalize hr : q + 1 = r at *
    have HP := Lib.hid hp
    have HQ := Lib.hid hq
    have HR := Lib.hid hr
    have HCP := Lib.hid hCP
    clear hp hq hr hS hQ hR hCP HST
    obtain ⟨i0, hi, hz0, hz1, hz2⟩ := info_parts infoNd
    go_wp2_with fail
    go_loopw [4, 5] (fun v4 i wr => ∃ (k : Nat) (vk : Value), k ≤ n.kids.length ∧ vk = v4 ∧ i = .int .i64 k ∧ LeS w p q r L B n b cap vk (n.kids.take k) wr) (fun _ i _ => n.kids.length - (intOf i).toNat)
    case atStart => exact ⟨0, _, Nat.zero_le _, rfl, rfl, HCP.out⟩
    case round =>
      clear HCP
      obtain ⟨k, vk, hkl, rfl, rfl, hcp⟩ := hrel
      have HCP := Lib.hid hcp
      obtain ⟨d0, d1, d2, d3, d4, g0, g1, g2, g3, g4⟩ := NdBox.facts hcp.st.box
      by_cases hlt : k < n.kids.length
      · obtain ⟨g, off, b', cap', rfl, hgB, c0, c1, c2, c3, c4, hkv⟩ := RowP_cells hcp.st.row k hlt
        have hBw := Nat.le_trans hcp.st.hB hcp.st.bel.size
        have hkl2 : (n.kids.take k).length = k := by rw [List.length_take]; omega
        have HCALL := Lib.hid (fun (W : World) (hW : Below wr.heap.size wr W) => lend_use hcp hkl2 hW (HIH.out W k hlt _ (NdV_bel hkv (hW.mono hBw)) (Nat.le_trans hBw hW.size)))
        have HTK := Lib.hid (List.take_succ_eq_append_getElem hlt)
        have hrl := hcp.hr
        have hpl := hcp.st.box.lt
        have hqr := hcp.qr
        have hwr := Nat.le_trans hcp.st.hp (Nat.le_of_lt (Nat.lt_trans hcp.pq hcp.qr))
        generalize hys : n.kids.take k = ys at *
        generalize hkid : n.kids[k] = x at *
        have HKL := Lib.hid hkl2
        clear hcp hkid hkv hkl2 hys
        go_upto_region 6 with fail
        go_wp2_with (first | (go_at_call 8; (with_reducible refine (HCALL.out _ (Below.refl _ _)).mono ?_); rintro e w2 ⟨bu, cu, rfl, hru, hb2, hkr2, hln2, hs2⟩; have HLN := Lib.hid hln2; clear hln2) | (at_builtin; refine wpList_append_lies _ (by rfl) _ _ _ (by rfl) (r + 1) 24 i0 _ 5 64 (by kernel_rfl) hi hz0 hz1 hz2 (by rfl) (by decide) vk k hkr2.cells (by rfl) ((hkr2.own HLN.out).alloc _) ⟨w2.heap.size, 0, none⟩ 1 1 [.int .i64 x.kind, .string x.text, .slice bu x.kids.length cu, .int .i64 x.from', .int .i64 x.till] (by rfl) (by rfl) (World.news_of_block (heap_alloc_new _ _)) five_one (by decide) (by unfold maxLen; omega) (by omega) (by rw [World.size_alloc]; omega) (w2.heap.size + 1) (by simp) ?_; intro g1 cap1 w3 hown3 hgrow3 hat3 hlt3))
        all_goals
          have hst3 := LeS.step HCP.out hb2 hru hkr2 HKL.out hown3 hgrow3 hat3 hs2
          have HST3 := Lib.hid hst3
          clear hst3 hown3 hgrow3 hat3 hkr2 hru hb2
          go_roundw
          case rel => exact ⟨k + 1, _, hlt, rfl, by go_num, by rw [HTK.out]; exact HST3.out⟩
          case measure => simp [intOf]; omega
      · obtain rfl : k = n.kids.length := by omega
        rw [List.take_length] at hcp
        have HCX := Lib.hid hcp
        clear HCP
        obtain ⟨x0, x1, x2, x3, x4, y0, y1, y2, y3, y4⟩ := NdBoxV.facts hcp.out
        have hrl := hcp.hr
        have hpl := hcp.st.box.lt
        have hpr : p ≤ r := by have := hcp.pq; have := hcp.qr; omega
        have hrw0 : r < wr.heap.size := hcp.hr
        clear hcp
        go_upto_region 7 with fail
        go_region_law (refine step_append_lies _ (by rfl) _ _ _ (by rfl) (r + 1) 24 i0 _ 5 64 (by kernel_rfl) hi hz0 hz1 hz2 (by rfl) (by decide) vk n.kids.length HCX.out.kr.cells (by rfl) ((HCX.out.kr.own rfl).alloc _) ⟨wr.heap.size, 0, none⟩ 2 2 [.int .i64 (-7), .string ⟨#[]⟩, .slice none 0 0, .int .i64 0, .int .i64 0, .int .i64 (-7), .string ⟨#[]⟩, .slice none 0 0, .int .i64 0, .int .i64 0] (by rfl) (by rfl) (World.news_of_block (heap_alloc_new _ _)) ten_one (by decide) (by unfold maxLen; omega) (by omega) (by simp <;> omega) (wr.heap.size + 1) (by simp) ?_; intro g1 cap1 w3 hown3 hgrow4 hat3 hlt3; have hgrow3 : (wr.alloc _).grownBy w3 vk.ownBlock := ⟨hgrow4.os, hgrow4.tape, hgrow4.output, hgrow4.size, hgrow4.block⟩; clear hgrow4; have b3 := push_far' hgrow3 (HCX.out.kr.own rfl) hrl (Nat.le_refl _); have f3 := (World.frozen?_of_block (a := ⟨r, 2, none⟩) b3).trans y2; have bp3 := push_far' hgrow3 (HCX.out.kr.own rfl) hrl hpr; have e3 := (World.cell?_of_block (a := ⟨p, 2, none⟩) bp3).trans d2; have er3 := (World.cell?_of_block (a := ⟨r, 2, none⟩) b3).trans x2; have hmc := (HCX.out.kr.mark rfl hown3 hgrow3).1; have hmc2 : n.kids.length ≤ cap1 := (by omega); have hrw : r < w3.heap.size := (Array.getElem?_eq_some_iff.1 (b3.trans HCX.out.out)).1)
        all_goals
          have HD := Lib.hid (HCX.out.done rfl hown3 hgrow3)
          obtain ⟨z0, z1, z2, z3, z4, v0, v1, v2, v3, v4⟩ := NdBoxV.facts HD.out.1
          obtain ⟨s0, s1, s2, s3, s4, t0, t1, t2, t3, t4⟩ := NdBoxV.facts HD.out.2.1
          have hqz := HD.out.2.2.1
          clear hown3 hgrow3 hat3
          go_wp2_with fail
          refine bodyPost_ret (results_nd rfl _ _ q rfl HD.out.2.2.2.1) rfl ?_
          exact ⟨_, rfl, HD.out.2.2.2.2.2, HD.out.2.2.2.2.1⟩
end Go.Proofs.YteejjkfmmhegmaaGreatDoor
