/- The iterator of ast.walk: it hands over a tree's nodes, each with its depth, in preorder. Condition: at most 2^22 nodes. -/
import Derived.Test.YteejjkfmmhegmaaGreatDoorRo
import Derived.Test.YteejjkfmmhegmaaGreatDoorRfo
import Derived.RangeFuncNested
import Derived.Deep.LoopGhost
import Derived.Sort.LoopGhostIn
import Derived.Sort.CutIn
import Derived.IntWalk
namespace Go.Proofs.YteejjkfmmhegmaaGreatDoor
open Go.RowKit

/-- a place that is left: depth, address, tree. -/
abbrev Pl := Nat × Addr × Nd
/-- its two cells. -/
def plCells : List Pl → List Value
  | [] => []
  | p :: ps => plCells ps ++ [.int .i64 p.1, .pointer (some p.2.1)]
theorem plCells_len : ∀ ps : List Pl, (plCells ps).length = ps.length * 2
  | [] => rfl
  | p :: ps => by rw [plCells, List.length_append, plCells_len ps]; simp; omega
theorem plCells_one : ∀ (ps : List Pl), ∀ u ∈ plCells ps, u.oneCell' = true
  | [], u, h => by simp [plCells] at h
  | p :: ps, u, h => by
    rw [plCells] at h
    rcases List.mem_append.1 h with h | h
    · exact plCells_one ps u h
    · simp only [List.mem_cons, List.not_mem_nil, or_false] at h
      rcases h with rfl | rfl <;> rfl
/-- where kid j lies. -/
def kidAddr (b : Option Addr) (j : Nat) : Addr := match b with
  | some a => ⟨a.block, a.off + j * 5, none⟩
  | none => ⟨0, 0, none⟩
/-- a node's kids from j on, as places. -/
def kidPl (d : Nat) (b : Option Addr) : List Nd → Nat → List Pl
  | [], _ => []
  | k :: ks, j => (d, kidAddr b j, k) :: kidPl d b ks (j + 1)
theorem kidPl_len (d : Nat) (b : Option Addr) : ∀ (ks : List Nd) (j : Nat), (kidPl d b ks j).length = ks.length
  | [], _ => rfl
  | k :: ks, j => by rw [kidPl, List.length_cons, kidPl_len d b ks (j + 1), List.length_cons]
/-- the depths that are still to come. -/
def plD : List Pl → List Nat
  | [] => []
  | p :: ps => preD p.1 p.2.2 ++ plD ps
/-- how many nodes are still to come. -/
def plN : List Pl → Nat
  | [] => 0
  | p :: ps => ndSize p.2.2 + plN ps
theorem plD_append : ∀ (a b : List Pl), plD (a ++ b) = plD a ++ plD b
  | [], _ => rfl
  | p :: ps, b => by rw [List.cons_append, plD, plD, plD_append ps b, List.append_assoc]
theorem plN_append : ∀ (a b : List Pl), plN (a ++ b) = plN a + plN b
  | [], _ => by rw [List.nil_append, plN, Nat.zero_add]
  | p :: ps, b => by rw [List.cons_append, plN, plN, plN_append ps b]; omega
theorem plD_kids (d : Nat) (b : Option Addr) : ∀ (ks : List Nd) (j : Nat), plD (kidPl d b ks j) = preDs d ks
  | [], _ => by rw [kidPl, plD, preDs]
  | k :: ks, j => by rw [kidPl, plD, preDs, plD_kids d b ks]
theorem plN_kids (d : Nat) (b : Option Addr) : ∀ (ks : List Nd) (j : Nat), plN (kidPl d b ks j) = ndSizes ks
  | [], _ => by rw [kidPl, plN, ndSizes]
  | k :: ks, j => by rw [kidPl, plN, ndSizes, plN_kids d b ks]
theorem kidPl_drop (d : Nat) (b : Option Addr) (ks : List Nd) (i : Nat) (h : i < ks.length) : kidPl d b (ks.drop i) i = (d, kidAddr b i, ks[i]) :: kidPl d b (ks.drop (i + 1)) (i + 1) := by
  rw [List.drop_eq_getElem_cons h, kidPl]
theorem len_le : ∀ ps : List Pl, ps.length ≤ plN ps
  | [] => Nat.le_refl _
  | p :: ps => by
    rw [plN, List.length_cons, ndSize_eq]
    have := len_le ps
    omega
/-- the places lie as they should. -/
def PlOk (w : World) (L B : Nat) (ps : List Pl) : Prop := ∀ p ∈ ps, ∃ g o, p.2.1 = ⟨g, o, none⟩ ∧ NdC w L B p.2.2 g o
theorem PlOk.kids {w : World} {L B d : Nat} {n : Nd} {b : Option Addr} (h : RowP w L B n.kids b 0) (i : Nat) : PlOk w L B (kidPl d b (n.kids.drop i) i) := by
  have key : ∀ (m i : Nat), n.kids.length - i = m → PlOk w L B (kidPl d b (n.kids.drop i) i) := by
    intro m
    induction m with
    | zero =>
      intro i hm
      rw [List.drop_eq_nil_of_le (by omega), kidPl]
      intro p hp
      cases hp
    | succ m ih =>
      intro i hm
      have hi : i < n.kids.length := by omega
      rw [kidPl_drop d b n.kids i hi]
      intro p hp
      rcases List.mem_cons.1 hp with rfl | hp
      · obtain ⟨g, off, rfl, hn⟩ := RowP_get h i hi
        rw [Nat.zero_add] at hn
        exact ⟨g, off + i * 5, rfl, hn⟩
      · exact ih (i + 1) (by omega) p hp
  exact key _ i rfl
/-- one place less. -/
theorem ownsRow_pop {w : World} {base : Nat} {e : TypeId} {g n cap : Nat} {xs ys : List Value} {size : Nat} (h : w.ownsRow base e size (.slice (some ⟨g, 0, none⟩) (n + 1) cap) (n + 1) (xs ++ ys)) (hx : xs.length = n * size) : w.ownsRow base e size (.slice (some ⟨g, 0, none⟩) n cap) n xs := by
  refine ⟨hx, .inr ?_⟩
  rcases h.2 with ⟨hv, _⟩ | ⟨g', cap', cur, hv, hg, hc, hn, hm, hs, ht⟩
  · cases hv
  · simp only [Value.slice.injEq, Option.some.injEq, Addr.mk.injEq, true_and, and_true] at hv
    obtain ⟨rfl, rfl⟩ := hv
    refine ⟨g, cap, cur, rfl, hg, hc, by omega, hm, hs, ?_⟩
    have := congrArg (List.take (n * size)) ht
    rw [List.take_take, List.take_left' hx, Nat.min_eq_left (Nat.mul_le_mul_right _ (by omega))] at this
    exact this
theorem ownsRow_some {w : World} {base : Nat} {e : TypeId} {v : Value} {n size : Nat} {xs : List Value} (h : w.ownsRow base e size v n xs) (hn : 0 < n) : ∃ g cap, v = .slice (some ⟨g, 0, none⟩) n cap ∧ base ≤ g ∧ g < w.heap.size ∧ n ≤ cap := by
  rcases h.2 with ⟨_, h0⟩ | ⟨g, cap, cur, rfl, hg, hc, hk, _⟩
  · omega
  · exact ⟨g, cap, rfl, hg, (Array.getElem?_eq_some_iff.1 hc).1, hk⟩
theorem ownsRow_len {w : World} {base : Nat} {e : TypeId} {v : Value} {n size : Nat} {xs : List Value} (h : w.ownsRow base e size v n xs) : ∃ b cap, v = .slice b n cap := by
  rcases h.2 with ⟨rfl, rfl⟩ | ⟨g, cap, cur, rfl, _⟩
  · exact ⟨none, 0, rfl⟩
  · exact ⟨_, cap, rfl⟩
theorem infoPl : (Tryz.prog.info? 55).map (fun i => (i.zero, i.size, i.bytes)) = some (some (.agg #[.int .i64 0, .pointer none]), 2, 16) := by kernel_rfl
theorem ownsRow_upper {W A B : World} {base : Nat} {e : TypeId} {v : Value} {n size : Nat} {xs : List Value} (h : A.ownsRow base e size v n xs) (hb : base = W.heap.size) (hu : Upper W.heap.size A B) : B.ownsRow base e size v n xs := by
  refine ⟨h.1, ?_⟩
  rcases h.2 with h2 | ⟨g, cap, cur, hv, hg, hc, rest⟩
  · exact .inl h2
  · exact .inr ⟨g, cap, cur, hv, hg, (hu.2 g (by omega) (Array.getElem?_eq_some_iff.1 hc).1).trans hc, rest⟩
/-- between two rounds: what was handed over, what is left. -/
structure WkS (w W : World) (L B : Nat) (n : Nd) (J : List (Nat × Addr) → World → Prop) (pre : List (Nat × Addr)) (st : List Pl) (v : Value) (wr : World) : Prop where
  deps : pre.map Prod.fst ++ plD st = preD 1 n
  many : pre.length + plN st = ndSize n
  ok : PlOk w L B st
  dep : ∀ p ∈ st, p.1 + ndSize p.2.2 ≤ 4194305
  row : wr.ownsRow W.heap.size 55 2 v st.length (plCells st)
  inv : J pre wr
  size : W.heap.size ≤ wr.heap.size
theorem PlOk.head {w : World} {L B : Nat} {p : Pl} {ps : List Pl} (h : PlOk w L B (p :: ps)) : (∃ g o, p.2.1 = ⟨g, o, none⟩ ∧ NdC w L B p.2.2 g o) ∧ PlOk w L B ps := ⟨h p (.head _), fun q hq => h q (.tail _ hq)⟩
theorem PlOk.append {w : World} {L B : Nat} {ps qs : List Pl} (h : PlOk w L B ps) (k : PlOk w L B qs) : PlOk w L B (ps ++ qs) := fun p hp => by
  rcases List.mem_append.1 hp with hp | hp
  · exact h p hp
  · exact k p hp
theorem PlOk.one {w : World} {L B d g o : Nat} {n : Nd} (h : NdC w L B n g o) : PlOk w L B [(d, ⟨g, o, none⟩, n)] := fun p hp => by
  rcases List.mem_cons.1 hp with rfl | hp
  · exact ⟨g, o, rfl, h⟩
  · cases hp
/-- pushing a node's kids: those from j on are pushed. -/
structure WkI (w W : World) (L B : Nat) (d xq ga oa : Nat) (t : Nd) (b : Option Addr) (rest : List Pl) (J : List (Nat × Addr) → World → Prop) (pre : List (Nat × Addr)) (cap2 j : Nat) (v : Value) (wr : World) : Prop where
  row : wr.ownsRow W.heap.size 55 2 v (kidPl (d + 1) b (t.kids.drop j) j ++ rest).length (plCells (kidPl (d + 1) b (t.kids.drop j) j ++ rest))
  box : wr.heap[xq]? = some (.cells #[.int .i64 d, .pointer (some ⟨ga, oa, none⟩)] 55 (0, 0))
  inv : J pre wr
  size : W.heap.size ≤ wr.heap.size
  cell : wr.cell? ⟨ga, oa + 2, none⟩ = some (.slice b t.kids.length cap2)
  far : v.ownBlock ≠ some xq
theorem kidPl_mem {d : Nat} {b : Option Addr} {p : Pl} : ∀ {ks : List Nd} {j : Nat}, p ∈ kidPl d b ks j → ∃ x ∈ ks, p.1 = d ∧ p.2.2 = x
  | [], _, h => by cases h
  | k :: ks, j, h => by
    rw [kidPl] at h
    rcases List.mem_cons.1 h with rfl | h
    · exact ⟨k, .head _, rfl, rfl⟩
    · obtain ⟨x, hx, e⟩ := kidPl_mem h
      exact ⟨x, .tail _ hx, e⟩
theorem two_one (d : Int) (a : Option Addr) : ∀ y ∈ ([.int .i64 d, .pointer a] : List Value), y.oneCell' = true := by
  intro y hy
  simp only [List.mem_cons, List.not_mem_nil, or_false] at hy
  rcases hy with rfl | rfl <;> rfl
/-- an append leaves older blocks alone. -/
theorem push_old {w2 w3 : World} {o : Obj} {v : Value} {base n size i : Nat} {e : TypeId} {ys : List Value} (hg : (w2.alloc o).grownBy w3 v.ownBlock) (ho : w2.ownsRow base e size v n ys) (hi : i < base) (hb : base ≤ w2.heap.size) : w3.heap[i]? = w2.heap[i]? := by
  refine (hg.block i (by rw [World.size_alloc]; omega) (fun e => ?_)).trans (Below.heap_alloc _ _ _ (by omega))
  have := (ho.lt i e.symm).1
  omega
theorem push_below {w2 w3 : World} {o : Obj} {v : Value} {base n size : Nat} {e : TypeId} {ys : List Value} (hg : (w2.alloc o).grownBy w3 v.ownBlock) (ho : w2.ownsRow base e size v n ys) (hb : base ≤ w2.heap.size) : Below base w2 w3 := by
  refine ((Below.refl base w2).alloc hb o).grown hg (by rw [World.size_alloc]; omega) (fun i e => ?_)
  exact (ho.lt i e).1
/-- an append leaves another block alone. -/
theorem push_out {w2 w3 : World} {o : Obj} {v : Value} {i : Nat} (hg : (w2.alloc o).grownBy w3 v.ownBlock) (hi : i < w2.heap.size) (hne : v.ownBlock ≠ some i) : w3.heap[i]? = w2.heap[i]? :=
  (hg.block i (by rw [World.size_alloc]; omega) (fun e => hne e.symm)).trans (Below.heap_alloc _ _ _ hi)
attribute [local go_sem] Oper.semAt_some
set_option maxRecDepth 100000 in
set_option maxHeartbeats 4000000 in
theorem walk_seq (n : Nd) (m : Nat) (hm : 1 ≤ m) (g o L B bn : Nat) (w : World) (hbox : w.heap[bn]? = some (.cells #[.pointer (some ⟨g, o, none⟩)] 30 (0, 0))) (hn : NdC w L B n g o) (hB : B ≤ w.heap.size) (hsz : ndSize n ≤ 4194304) :
    SeqOwn Fence.wide m Tryz.prog 37 #[.pointer (some ⟨bn, 0, none⟩)] (fun x : Nat × Addr => #[.int .i64 x.1, .pointer (some x.2)]) (fun A => ∀ k, L ≤ k → k < B → A.heap[k]? = w.heap[k]?) (ndSize n) (fun xs => xs.map Prod.fst = preD 1 n) w := by
  intro l J W hW hJa hT hY h0
  have hbW : W.heap[bn]? = some (.cells #[.pointer (some ⟨g, o, none⟩)] 30 (0, 0)) := (hW.block bn (Array.getElem?_eq_some_iff.1 hbox).1).trans hbox
  refine callsIn_of_wp Tryz.func37 rfl trivial ?_ rfl
  simp only [Tryz.ntmps37, List.size_toArray, List.length_cons, List.length_nil, Nat.reduceAdd, Nat.reduceSub, Array.replicate_succ, Array.replicate_zero, List.push_toArray, List.append_toArray, List.nil_append, List.cons_append]
  have HJa := Lib.hid hJa
  have HT := Lib.hid hT
  have HY := Lib.hid hY
  have hc := cell_of_row W bn 0 _ _ _ hbW
  have HST := Lib.hid (show WkS w W L B n J [] [(1, ⟨g, o, none⟩, n)] (.slice (some ⟨W.heap.size, 0, none⟩) 1 1) (W.alloc (.cells #[.int .i64 1, .pointer (some ⟨g, o, none⟩)] 55)) from
    ⟨by rw [List.map_nil, List.nil_append, plD, plD, List.append_nil], by rw [plN, plN]; simp, PlOk.one hn, (fun p hp => by
      rcases List.mem_cons.1 hp with rfl | hp
      · show 1 + ndSize n ≤ _; omega
      · cases hp), World.ownsRow_lit W #[.int .i64 1, .pointer (some ⟨g, o, none⟩)] 1 (Nat.le_refl _) (by decide) rfl, hJa _ _ _ h0 (Below.alloc (Below.refl _ _) (Nat.le_refl _) _), by rw [World.size_alloc]; omega⟩)
  have hwW := hW.size
  clear hJa hT hY hW hbW h0 hn
  obtain ⟨i0, hi, hz0, hz1, hz2⟩ := info_parts infoPl
  gi_wp2_with fail
  gi_loopg [3] (ndSize n) (fun s v wr => ∃ (pre : List (Nat × Addr)) (st : List Pl), s = plN st ∧ WkS w W L B n J pre st v wr)
  case atStart => exact ⟨[], _, by rw [plN, plN, Nat.add_zero], HST.out⟩
  case round =>
    clear HST
    obtain ⟨pre, st, hs, hst⟩ := hrel
    have HS := Lib.hid hs
    clear hs
    cases st with
    | nil =>
      have HST := Lib.hid hst
      obtain ⟨b, cap, rfl⟩ := ownsRow_len hst.row
      clear hst
      gi_wp2_with fail
      go_end0
      exact ⟨⟨_, rfl⟩, pre, by have := HST.out.deps; rw [plD, List.append_nil] at this; exact this, HST.out.inv⟩
    | cons x rest =>
      obtain ⟨d, a, t⟩ := x
      obtain ⟨g1, cap1, rfl, hg1, hg1w, hn1⟩ := ownsRow_some hst.row (Nat.succ_pos _)
      obtain ⟨⟨ga, oa, ha, hna⟩, hok⟩ := hst.ok.head
      simp only at ha hna
      subst ha
      have c0 : wr.cell? ⟨g1, rest.length * 2, none⟩ = some (.int .i64 d) := by
        rw [hst.row.cellAt (rest.length * 2) (by simp), plCells, List.getElem?_append_right (by rw [plCells_len]; exact Nat.le_refl _), plCells_len, Nat.sub_self]; rfl
      have c1 : wr.cell? ⟨g1, rest.length * 2 + 1, none⟩ = some (.pointer (some ⟨ga, oa, none⟩)) := by
        rw [hst.row.cellAt (rest.length * 2 + 1) (by simp; omega), plCells, List.getElem?_append_right (by rw [plCells_len]; omega), plCells_len, Nat.add_sub_cancel_left]; rfl
      have HROW := Lib.hid (ownsRow_pop hst.row (plCells_len rest))
      have HST := Lib.hid hst
      have HNA := Lib.hid hna
      have HOK := Lib.hid hok
      have hpl : pre.length < ndSize n := by have := hst.many; rw [plN, ndSize_eq] at this; omega
      have hrl : rest.length ≤ 4194304 := by have := hst.many; have := len_le rest; rw [plN] at *; omega
      have hdl : d + ndSize t ≤ 4194305 := hst.dep _ (.head _)
      have htc := kid_count t
      have hj1 := HJa.out _ _ _ hst.inv (Below.alloc (Below.refl _ wr) hst.size (.cells #[.int .i64 d, .pointer (some ⟨ga, oa, none⟩)] 55))
      obtain ⟨fn, tmps, assign, body, hy, hR⟩ := HY.out pre (d, ⟨ga, oa, none⟩) (wr.alloc (.cells #[.int .i64 d, .pointer (some ⟨ga, oa, none⟩)] 55)) hj1 hpl (by rw [World.size_alloc]; have := hst.size; omega)
      have HXB := Lib.hid (heap_alloc_new wr (.cells #[.int .i64 d, .pointer (some ⟨ga, oa, none⟩)] 55))
      have hws := hst.size
      simp only [List.length_cons] at hn1 ⊢
      clear hst hna hok hj1
      gi_wp2_with fail
      refine hR.mono ?_
      rintro e W' ⟨rfl, hJ', hk⟩
      have hxb : W'.heap[wr.heap.size]? = some (.cells #[.int .i64 d, .pointer (some ⟨ga, oa, none⟩)] 55 (0, 0)) := (hk.2 _ hws (by rw [World.size_alloc]; omega)).trans HXB.out
      have hrow : W'.ownsRow W.heap.size 55 2 (.slice (some ⟨g1, 0, none⟩) rest.length cap1) rest.length (plCells rest) := ownsRow_upper (HROW.out.alloc _) rfl hk
      have hWW : W.heap.size ≤ W'.heap.size := by have := hk.1; rw [World.size_alloc] at this; omega
      have hna2 := NdC_keep (Nat.le_refl _) (Nat.le_refl _) (HT.out _ _ hJ') _ _ _ HNA.out
      rw [NdC_eq] at hna2
      obtain ⟨b2, cap2, _, hgaB, _, _, k2, _, _, hcap2, hrow2⟩ := hna2
      have hxl := (Array.getElem?_eq_some_iff.1 hxb).1
      have x0 := cell_of_row W' wr.heap.size 0 _ _ _ hxb
      have x1 := cell_of_row W' wr.heap.size 1 _ _ _ hxb
      have HIN := Lib.hid (show WkI w W L B d wr.heap.size ga oa t b2 rest J (pre ++ [(d, ⟨ga, oa, none⟩)]) cap2 t.kids.length (.slice (some ⟨g1, 0, none⟩) rest.length cap1) W' from
        ⟨by rw [List.drop_length, kidPl, List.nil_append]; exact hrow, hxb, hJ', hWW, k2, fun e => by
          have e2 : g1 = wr.heap.size := by simpa [Value.ownBlock] using e
          omega⟩)
      have HPK := Lib.hid (fun i => PlOk.kids (d := d + 1) (RowP_keep (w' := w) (Nat.le_refl _) (Nat.le_refl _) (fun k h1 h2 => (HT.out _ _ hJ' k h1 h2).symm) hrow2) i)
      have hgaW : ga < W.heap.size := by omega
      have HRB := Lib.hid (show ∀ i, i < t.kids.length → ∃ g off, b2 = some ⟨g, off, none⟩ from fun i hi => by obtain ⟨g, off, e, _⟩ := RowP_get hrow2 i hi; exact ⟨g, off, e⟩)
      generalize hxq : wr.heap.size = xq at *
      have hxqW : W.heap.size ≤ xq := hws
      have HWS := Lib.hid hws
      clear hy hR hk hxb hrow hrow2 hJ' c0 c1 hxq hws
      gi_wp2_with fail
      clear x0 x1 k2
      gi_loopw [3, 5] (fun v i wr => ∃ j : Nat, j ≤ t.kids.length ∧ i = .int .i64 ((j : Int) - 1) ∧ WkI w W L B d xq ga oa t b2 rest J (pre ++ [(d, ⟨ga, oa, none⟩)]) cap2 j v wr) (fun _ i _ => (intOf i + 1).toNat)
      case atStart => exact ⟨t.kids.length, Nat.le_refl _, rfl, HIN.out⟩
      case round =>
        clear HIN
        obtain ⟨j, hj, rfl, hin⟩ := hrel
        have HIN := Lib.hid hin
        have hxl2 := (Array.getElem?_eq_some_iff.1 hin.box).1
        have x0 := cell_of_row _ xq 0 _ _ _ hin.box
        have x1 := cell_of_row _ xq 1 _ _ _ hin.box
        have k2 := hin.cell
        cases j with
        | zero =>
          have e0 : (((0 : Nat) : Int) - 1) = -1 := rfl
          rw [e0]
          clear e0
          gi_wp2_with fail
          gi_roundg (plN (kidPl (d + 1) b2 t.kids 0 ++ rest))
          case measure => rw [HS.out, plN_append, plN_kids]; show _ < ndSize t + plN rest; have := ndSize_eq t; omega
          case rel =>
            refine ⟨pre ++ [(d, ⟨ga, oa, none⟩)], kidPl (d + 1) b2 t.kids 0 ++ rest, rfl, ?_, ?_, (HPK.out 0).append HOK.out, ?_, HIN.out.row, HIN.out.inv, HIN.out.size⟩
            · have := HST.out.deps
              rw [plD, preD_eq] at this
              rw [List.map_append, plD_append, plD_kids, ← this]
              simp
            · have := HST.out.many
              have e1 : plN ((d, ⟨ga, oa, none⟩, t) :: rest) = ndSize t + plN rest := rfl
              have e2 := ndSize_eq t
              rw [List.length_append, plN_append, plN_kids, List.length_singleton]
              omega
            · intro p hp
              rcases List.mem_append.1 hp with hp | hp
              · obtain ⟨x, hx, e1, e2⟩ := kidPl_mem hp
                have := ndSizes_mem hx
                rw [e1, e2]
                rw [ndSize_eq t] at hdl
                omega
              · exact HST.out.dep p (.tail _ hp)
        | succ i =>
          have e0 : (((i + 1 : Nat) : Int) - 1) = i := by omega
          rw [e0]
          clear e0
          obtain ⟨gk2, offk, rfl⟩ := HRB.out i (by omega)
          have HKD := Lib.hid (kidPl_drop (d + 1) (some ⟨gk2, offk, none⟩) t.kids i (by omega))
          generalize hSd : kidPl (d + 1) (some ⟨gk2, offk, none⟩) (t.kids.drop (i + 1)) (i + 1) ++ rest = S at *
          have hSl : S.length ≤ 8388608 := by rw [← hSd, List.length_append, kidPl_len, List.length_drop]; omega
          have HSD := Lib.hid hSd
          have HOWN := Lib.hid (show wr.ownsRow W.heap.size 55 2 _ S.length (plCells S) by rw [← hSd]; exact hin.row)
          have hww := hin.size
          have hxo := hin.far
          clear hin hSd
          have hil : i < t.kids.length := by omega
          gi_upto_region 8 with fail
          have hwd : IntKind.i64.wrap ((d : Int) + 1) = (d : Int) + 1 := IntWalk.i64_in _ (by omega)
          refine wpIn_wide.2 ?_
          go_region_law (refine step_append_lies _ (by rfl) _ _ _ (by rfl) W.heap.size 55 i0 _ 2 16 (by kernel_rfl) hi hz0 hz1 hz2 (by rfl) (by decide) _ S.length (plCells S) (by rfl) (HOWN.out.alloc _) ⟨wr.heap.size, 0, none⟩ 1 1 [.int .i64 ((d : Int) + 1), .pointer (some ⟨gk2, offk + i * 5, none⟩)] (by rfl) (by rfl) (World.news_of_block (heap_alloc_new _ _)) (two_one _ _) (by decide) (by unfold maxLen; omega) (by omega) (by simp <;> omega) (wr.heap.size + 1) (by simp) ?_; intro g3 cap3 w3 hown3 hgrow4 hat3 hlt3; have hgrow3 : (wr.alloc _).grownBy w3 _ := ⟨hgrow4.os, hgrow4.tape, hgrow4.output, hgrow4.size, hgrow4.block⟩; clear hgrow4; have hxf := push_out hgrow3 hxl2 hxo; have z0 := (World.cell?_of_block (a := ⟨xq, 0, none⟩) hxf).trans x0; have z1 := (World.cell?_of_block (a := ⟨xq, 1, none⟩) hxf).trans x1; have hxl3 : xq < w3.heap.size := (Array.getElem?_eq_some_iff.1 (hxf.trans HIN.out.box)).1; have hga3 := push_old hgrow3 HOWN.out hgaW hww; have z2 := (World.cell?_of_block (a := ⟨ga, oa + 2, none⟩) hga3).trans k2; have hgal3 : ga < w3.heap.size := (by omega))
          all_goals
            have HST3 := Lib.hid (show WkI w W L B d xq ga oa t (some ⟨gk2, offk, none⟩) rest J (pre ++ [(d, ⟨ga, oa, none⟩)]) cap2 i (.slice (some ⟨g3, 0, none⟩) (S.length + 1) cap3) w3 from
              ⟨by rw [HKD.out, List.cons_append, HSD.out, List.length_cons, plCells]; exact hown3, hxf.trans HIN.out.box, HJa.out _ _ _ HIN.out.inv (push_below hgrow3 HOWN.out hww), by omega, z2, by
                intro e
                have e2 : g3 = xq := by simpa [Value.ownBlock] using e
                subst e2
                rcases hat3 with h | h
                · exact hxo h
                · omega⟩)
            clear hown3 hgrow3 hat3 hxf hga3 hwd
            gi_wp2_with fail
            go_roundw
            case rel => exact ⟨i, by omega, by go_num, HST3.out⟩
            case measure => simp [intOf]
end Go.Proofs.YteejjkfmmhegmaaGreatDoor
