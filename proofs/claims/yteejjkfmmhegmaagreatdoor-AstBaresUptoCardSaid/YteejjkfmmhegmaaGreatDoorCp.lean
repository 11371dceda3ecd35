/- Contracts of CopyNode, LendNode. Condition: at most 2^22 nodes. -/
import Derived.Test.YteejjkfmmhegmaaGreatDoorKr
import Derived.Deep.RegionHeld3
import Derived.Deep.RegionLaw
namespace Go.Proofs.YteejjkfmmhegmaaGreatDoor
open Go.RowKit

theorem infoNd : (Tryz.prog.info? 24).map (fun i => (i.zero, i.size, i.bytes)) = some (some (.agg #[.int .i64 0, .string ⟨#[]⟩, .slice none 0 0, .int .i64 0, .int .i64 0]), 5, 64) := by kernel_rfl
/-- a node's block, whatever its kids. -/
def NdBoxV (w : World) (p : Nat) (k : Int) (t : ByteArray) (v : Value) (f u : Int) : Prop := w.heap[p]? = some (.cells #[.int .i64 k, .string t, v, .int .i64 f, .int .i64 u] 24 (0, 0))
theorem NdBoxV.lt {w : World} {p : Nat} {k : Int} {t : ByteArray} {v : Value} {f u : Int} (h : NdBoxV w p k t v f u) : p < w.heap.size := (Array.getElem?_eq_some_iff.1 h).1
theorem NdBoxV.bel {w w' : World} {p : Nat} {k : Int} {t : ByteArray} {v : Value} {f u : Int} (h : NdBoxV w p k t v f u) (hb : Below w.heap.size w w') : NdBoxV w' p k t v f u := (hb.block p h.lt).trans h
theorem NdBoxV.facts {w : World} {p : Nat} {k : Int} {t : ByteArray} {v : Value} {f u : Int} (h : NdBoxV w p k t v f u) :
    w.cell? ⟨p, 0, none⟩ = some (.int .i64 k) ∧ w.cell? ⟨p, 1, none⟩ = some (.string t) ∧ w.cell? ⟨p, 2, none⟩ = some v ∧ w.cell? ⟨p, 3, none⟩ = some (.int .i64 f) ∧ w.cell? ⟨p, 4, none⟩ = some (.int .i64 u) ∧
    w.frozen? ⟨p, 0, none⟩ = false ∧ w.frozen? ⟨p, 1, none⟩ = false ∧ w.frozen? ⟨p, 2, none⟩ = false ∧ w.frozen? ⟨p, 3, none⟩ = false ∧ w.frozen? ⟨p, 4, none⟩ = false := by
  have hc := fun o => cell_of_row w p o _ _ (0, 0) h
  have hf := fun o => frozen_of_row w p o _ _ h
  exact ⟨hc 0, hc 1, hc 2, hc 3, hc 4, hf 0, hf 1, hf 2, hf 3, hf 4⟩
/-- a copy under way: the node's box, the result's, the copy's; k kids are copied. -/
structure CpS (w0 : World) (p q r L B : Nat) (n : Nd) (b : Option Addr) (cap : Nat) (vk : Value) (k : Nat) (wr : World) : Prop where
  st : NSt w0 p L B n b cap wr
  res : NdBoxV wr q 0 ⟨#[]⟩ (.slice none 0 0) 0 0
  out : NdBoxV wr r n.kind n.text vk n.from' n.till
  kr : KRow RowE wr (r + 1) vk (n.kids.take k)
  pq : p < q
  qr : q < r
  hr : r < wr.heap.size
/-- what a round of the copy uses of the call. -/
theorem copy_use {f : Nat} {w0 wr W : World} {p q r L B : Nat} {n x : Nd} {b : Option Addr} {cap : Nat} {vk : Value} {k : Nat} {args : Array Value} (h : CpS w0 p q r L B n b cap vk k wr) (hk2 : k ≤ n.kids.length) (hW : Below wr.heap.size wr W)
    (hc : Calls Tryz.prog f args W fun e w' => ∃ u, e = .returned u ∧ NdW w' W.heap.size w'.heap.size x u ∧ Below W.heap.size W w') :
    Calls Tryz.prog f args W fun e w' => ∃ bu cu, e = .returned (.agg #[.int .i64 x.kind, .string x.text, .slice bu x.kids.length cu, .int .i64 x.from', .int .i64 x.till]) ∧ RowE w' wr.heap.size w'.heap.size x bu cu ∧ Below wr.heap.size wr w' ∧
      KRow RowE w' (r + 1) vk (n.kids.take k) ∧ (n.kids.take k).length = k ∧
      w'.cell? ⟨r, 2, none⟩ = some vk ∧ w'.frozen? ⟨r, 2, none⟩ = false ∧ r < w'.heap.size := by
  refine hc.mono fun e w' => ?_
  rintro ⟨u, rfl, ⟨bu, cu, rfl, hru⟩, hb⟩
  have hb2 := hW.trans (hb.mono hW.size)
  have ho := h.out.bel hb2
  obtain ⟨_, _, e2, _, _, _, _, f2, _, _⟩ := NdBoxV.facts ho
  exact ⟨bu, cu, rfl, RowE.keeps.k hW.size (Nat.le_refl _) (fun _ _ _ => rfl) hru, hb2, h.kr.bel RowE.keeps hb2, by rw [List.length_take]; omega, e2, f2, ho.lt⟩
theorem five_one {a : Int} {t : ByteArray} {b : Option Addr} {m c : Nat} {f u : Int} : ∀ y ∈ ([.int .i64 a, .string t, .slice b m c, .int .i64 f, .int .i64 u] : List Value), y.oneCell' = true := by
  intro y hy
  simp only [List.mem_cons, List.not_mem_nil, or_false] at hy
  rcases hy with rfl | rfl | rfl | rfl | rfl <;> rfl
theorem push_far {w2 w3 : World} {o : Obj} {v : Value} {r n : Nat} {ys : List Value} (hg : (w2.alloc o).grownBy w3 v.ownBlock) (ho : w2.ownsRow (r + 1) 24 5 v n ys) (hr : r < w2.heap.size) : w3.heap[r]? = w2.heap[r]? := by
  refine (hg.block r (by rw [World.size_alloc]; omega) (fun e => ?_)).trans (Below.heap_alloc _ _ _ hr)
  have := (ho.lt r e.symm).1
  omega
theorem NSt.low {w0 wr w' : World} {p L B r : Nat} {n : Nd} {b : Option Addr} {cap : Nat} (h : NSt w0 p L B n b cap wr) (hb : Below r wr w') (hp : p < r) : NSt w0 p L B n b cap w' := by
  have h1 := h.hp
  have h2 := h.hB
  exact ⟨h.box.bel hb hp, RowP_bel h.row (hb.mono (by omega)), h.bel.trans (hb.mono (by omega)), h.hp, h.hB⟩
/-- a round of the copy. -/
theorem CpS.step {w0 wr w2 w3 : World} {p q r L B : Nat} {n x : Nd} {b bu : Option Addr} {cap cu : Nat} {vk : Value} {k g cap1 : Nat} {o : Obj} (h : CpS w0 p q r L B n b cap vk k wr) (hk : k < n.kids.length) (hx : n.kids[k] = x)
    (hb2 : Below wr.heap.size wr w2) (hru : RowE w2 wr.heap.size w2.heap.size x bu cu) (hkr2 : KRow RowE w2 (r + 1) vk (n.kids.take k)) (hlen : (n.kids.take k).length = k)
    (ho : w3.ownsRow (r + 1) 24 5 (.slice (some ⟨g, 0, none⟩) (k + 1) cap1) (k + 1) (hkr2.cells ++ (ndCells x.kind x.text bu x.kids.length cu x.from' x.till).toList))
    (hg : (w2.alloc o).grownBy w3 vk.ownBlock) (hat : vk.ownBlock = some g ∨ g = w2.heap.size + 1) (hr : r < w2.heap.size) :
    CpS w0 p q r L B n b cap (.slice (some ⟨g, 0, none⟩) (k + 1) cap1) (k + 1) (w3.setCell ⟨r, 2, none⟩ (.slice (some ⟨g, 0, none⟩) (k + 1) cap1)) := by
  have hown := hkr2.own hlen
  have hpq := h.pq
  have hqr := h.qr
  have hwr := h.hr
  have hst := h.st.hp
  have hlow : Below r wr (w3.setCell ⟨r, 2, none⟩ (.slice (some ⟨g, 0, none⟩) (k + 1) cap1)) := by
    have h3 : Below r w2 w3 := by
      refine ((Below.refl r w2).alloc (by omega) o).grown hg (by rw [World.size_alloc]; omega) (fun i e => ?_)
      have := (hown.lt i e).1
      omega
    exact ((hb2.mono (by omega)).trans h3).setCell (p := ⟨r, 2, none⟩) (Nat.le_refl _) _
  have hz3 := hg.size
  rw [World.size_alloc] at hz3
  have hkr : KRow RowE w3 (r + 1) (.slice (some ⟨g, 0, none⟩) (k + 1) cap1) (n.kids.take k ++ [x]) :=
    KRow.push RowE.keeps hkr2 hlen (by omega) (fun i e => ((h.kr.own hlen).lt i e).2) (Nat.le_refl _) hru ho hg hat
  refine ⟨h.st.low hlow (by omega), (hlow.block q (by omega)).trans h.res, ?_, ?_, hpq, hqr, ?_⟩
  · have h1 : w3.heap[r]? = some (.cells #[.int .i64 n.kind, .string n.text, vk, .int .i64 n.from', .int .i64 n.till] 24 (0, 0)) := (push_far hg hown hr).trans (h.out.bel hb2)
    exact heap_setCell_same w3 r 2 _ 24 (.slice (some ⟨g, 0, none⟩) (k + 1) cap1) h1
  · rw [List.take_succ_eq_append_getElem hk, hx]
    exact hkr.high RowE.keeps (by simp [World.setCell]) (fun i h1 _ => Below.heap_setCell _ _ _ _ (by show i ≠ r; omega))
  · simp only [World.setCell, Array.size_modify]
    omega
/-- a result laid. -/
def lay5 (w : World) (q : Nat) (k : Int) (t : ByteArray) (v : Value) (f u : Int) : World := ((((w.setCell ⟨q, 0, none⟩ (.int .i64 k)).setCell ⟨q, 1, none⟩ (.string t)).setCell ⟨q, 2, none⟩ v).setCell ⟨q, 3, none⟩ (.int .i64 f)).setCell ⟨q, 4, none⟩ (.int .i64 u)
theorem NdBoxV.lay {w : World} {q : Nat} {k0 k : Int} {t0 t : ByteArray} {v0 v : Value} {f0 f u0 u : Int} (h : NdBoxV w q k0 t0 v0 f0 u0) : NdBoxV (lay5 w q k t v f u) q k t v f u := by
  have h1 := heap_setCell_same w q 0 _ 24 (.int .i64 k) h
  have h2 := heap_setCell_same _ q 1 _ 24 (.string t) h1
  have h3 := heap_setCell_same _ q 2 _ 24 v h2
  have h4 := heap_setCell_same _ q 3 _ 24 (.int .i64 f) h3
  exact heap_setCell_same _ q 4 _ 24 (.int .i64 u) h4
theorem lay5_block (w : World) (q : Nat) (k : Int) (t : ByteArray) (v : Value) (f u : Int) (i : Nat) (h : i ≠ q) : (lay5 w q k t v f u).heap[i]? = w.heap[i]? := by
  unfold lay5
  rw [Below.heap_setCell _ _ _ _ h, Below.heap_setCell _ _ _ _ h, Below.heap_setCell _ _ _ _ h, Below.heap_setCell _ _ _ _ h, Below.heap_setCell _ _ _ _ h]
theorem lay5_size (w : World) (q : Nat) (k : Int) (t : ByteArray) (v : Value) (f u : Int) : (lay5 w q k t v f u).heap.size = w.heap.size := by simp [lay5, World.setCell]
theorem lay5_bel {B : Nat} {a w : World} (h : Below B a w) {q : Nat} (hq : B ≤ q) (k : Int) (t : ByteArray) (v : Value) (f u : Int) : Below B a (lay5 w q k t v f u) :=
  ((((h.setCell (p := ⟨q, 0, none⟩) hq _).setCell (p := ⟨q, 1, none⟩) hq _).setCell (p := ⟨q, 2, none⟩) hq _).setCell (p := ⟨q, 3, none⟩) hq _).setCell (p := ⟨q, 4, none⟩) hq _
theorem results_nd {fn : Func} {p : Tmp} (h : fn.results = #[.cell p 24]) (tmps : Array Value) (w : World) (g : Nat) {k : Int} {t : ByteArray} {v : Value} {f u : Int} (hp : tmps.getD p undef = .pointer (some ⟨g, 0, none⟩)) (hx : NdBoxV w g k t v f u) :
    (results fn tmps).run Tryz.prog w = .ok (.agg #[.int .i64 k, .string t, v, .int .i64 f, .int .i64 u]) w :=
  results_cell_row h tmps w g 24 _ (0, 0) _ hp hx Tryz.underlying24 rfl (by kernel_rfl)
/-- all kids are copied: the result. -/
theorem CpS.done {w0 wr : World} {p q r L B : Nat} {n : Nd} {b : Option Addr} {cap : Nat} {vk : Value} (h : CpS w0 p q r L B n b cap vk n.kids.length wr) :
    ∃ b' cap', vk = .slice b' n.kids.length cap' ∧ NdW (lay5 wr q n.kind n.text (.slice b' n.kids.length cap') n.from' n.till) w0.heap.size (lay5 wr q n.kind n.text (.slice b' n.kids.length cap') n.from' n.till).heap.size n (.agg #[.int .i64 n.kind, .string n.text, .slice b' n.kids.length cap', .int .i64 n.from', .int .i64 n.till]) ∧
      Below w0.heap.size w0 (lay5 wr q n.kind n.text (.slice b' n.kids.length cap') n.from' n.till) ∧ NdBoxV (lay5 wr q n.kind n.text (.slice b' n.kids.length cap') n.from' n.till) q n.kind n.text (.slice b' n.kids.length cap') n.from' n.till := by
  have h1 := h.pq
  have h2 := h.qr
  have h3 := h.st.hp
  have hk := h.kr
  rw [List.take_length] at hk
  obtain ⟨b', cap', hv, hc, hr, hr2⟩ := hk.row
  refine ⟨b', cap', hv, ⟨b', cap', rfl, ?_⟩, lay5_bel h.st.bel (by omega) _ _ _ _ _, h.res.lay⟩
  rw [lay5_size]
  exact RowE.keeps.k (by omega) (Nat.le_refl _) (fun i h4 _ => lay5_block _ _ _ _ _ _ _ _ (by omega)) ⟨hc, hr, hr2⟩
set_option maxRecDepth 20000 in
set_option maxHeartbeats 2000000 in
theorem copy_any (n : Nd) : ∀ (v : Value) (w : World) (L B : Nat), NdV w L B n v → B ≤ w.heap.size → ndSize n ≤ 4194304 →
    Calls Tryz.prog 10 #[v] w fun e w' => ∃ u, e = .returned u ∧ NdW w' w.heap.size w'.heap.size n u ∧ Below w.heap.size w w' := by
  induction n using Nd.ind with
  | h n ih =>
    intro v w L B hv hB hsz
    obtain ⟨b, cap, rfl, hcap, hrow⟩ := hv
    unfold ndCells
    have hkc := kid_count n
    have HIH := Lib.hid (fun (W : World) (j : Nat) (hj : j < n.kids.length) (v : Value) (hu : NdV W L B n.kids[j] v) (hW : B ≤ W.heap.size) => ih _ (List.getElem_mem hj) v W L B hu hW (by have := kid_size hj; omega))
    have HST := Lib.hid (NSt.new (cap := cap) hrow hB)
    clear hrow ih
    go_enter Tryz.func10, Tryz.ntmps10
    go_upto_region 3 with fail
    have hR : NdBoxV (((w.alloc (.cells #[.int .i64 n.kind, .string n.text, .slice b n.kids.length cap, .int .i64 n.from', .int .i64 n.till] 24)).alloc (.cells #[.int .i64 0, .string ⟨#[]⟩, .slice none 0 0, .int .i64 0, .int .i64 0] 24)).alloc (.cells #[.int .i64 n.kind, .string n.text, .slice none 0 0, .int .i64 n.from', .int .i64 n.till] 24)) (w.heap.size + 1 + 1) n.kind n.text (.slice none 0 0) n.from' n.till := by
      have := heap_alloc_new ((w.alloc (.cells #[.int .i64 n.kind, .string n.text, .slice b n.kids.length cap, .int .i64 n.from', .int .i64 n.till] 24)).alloc (.cells #[.int .i64 0, .string ⟨#[]⟩, .slice none 0 0, .int .i64 0, .int .i64 0] 24)) (.cells #[.int .i64 n.kind, .string n.text, .slice none 0 0, .int .i64 n.from', .int .i64 n.till] 24)
      rw [World.size_alloc, World.size_alloc] at this
      exact this
    have hQ : NdBoxV (((w.alloc (.cells #[.int .i64 n.kind, .string n.text, .slice b n.kids.length cap, .int .i64 n.from', .int .i64 n.till] 24)).alloc (.cells #[.int .i64 0, .string ⟨#[]⟩, .slice none 0 0, .int .i64 0, .int .i64 0] 24)).alloc (.cells #[.int .i64 n.kind, .string n.text, .slice none 0 0, .int .i64 n.from', .int .i64 n.till] 24)) (w.heap.size + 1) 0 ⟨#[]⟩ (.slice none 0 0) 0 0 := by
      have := heap_alloc_new (w.alloc (.cells #[.int .i64 n.kind, .string n.text, .slice b n.kids.length cap, .int .i64 n.from', .int .i64 n.till] 24)) (.cells #[.int .i64 0, .string ⟨#[]⟩, .slice none 0 0, .int .i64 0, .int .i64 0] 24)
      rw [World.size_alloc] at this
      exact (Below.heap_alloc _ _ _ (by rw [World.size_alloc, World.size_alloc]; omega)).trans this
    have hS : NSt w w.heap.size L B n b cap (((w.alloc (.cells #[.int .i64 n.kind, .string n.text, .slice b n.kids.length cap, .int .i64 n.from', .int .i64 n.till] 24)).alloc (.cells #[.int .i64 0, .string ⟨#[]⟩, .slice none 0 0, .int .i64 0, .int .i64 0] 24)).alloc (.cells #[.int .i64 n.kind, .string n.text, .slice none 0 0, .int .i64 n.from', .int .i64 n.till] 24)) :=
      (HST.out.bel' (Below.alloc (Below.refl _ _) (Nat.le_refl _) _)).bel' (Below.alloc (Below.refl _ _) (Nat.le_refl _) _)
    have hCP : CpS w w.heap.size (w.heap.size + 1) (w.heap.size + 1 + 1) L B n b cap (.slice none 0 0) 0 (((w.alloc (.cells #[.int .i64 n.kind, .string n.text, .slice b n.kids.length cap, .int .i64 n.from', .int .i64 n.till] 24)).alloc (.cells #[.int .i64 0, .string ⟨#[]⟩, .slice none 0 0, .int .i64 0, .int .i64 0] 24)).alloc (.cells #[.int .i64 n.kind, .string n.text, .slice none 0 0, .int .i64 n.from', .int .i64 n.till] 24)) :=
      ⟨hS, hQ, hR, KRow.nil _ _ _, by omega, by omega, by rw [World.size_alloc, World.size_alloc, World.size_alloc]; omega⟩
    generalize World.alloc (World.alloc (World.alloc w _) _) _ = w1 at *
    generalize hp : w.heap.size = p at hCP
    generalize hq : p + 1 = q at *
    generalize hr : q + 1 = r at *
    have HP := Lib.hid hp
    have HQ := Lib.hid hq
    have HR := Lib.hid hr
    have HCP := Lib.hid hCP
    clear hp hq hr hS hQ hR hCP HST
    obtain ⟨i0, hi, hz0, hz1, hz2⟩ := info_parts infoNd
    go_wp2_with fail
    go_loopw [4] (fun i wr => ∃ (k : Nat) (vk : Value), k ≤ n.kids.length ∧ i = .int .i64 k ∧ CpS w p q r L B n b cap vk k wr) (fun i _ => n.kids.length - (intOf i).toNat)
    case atStart => exact ⟨0, _, Nat.zero_le _, rfl, HCP.out⟩
    case round =>
      clear HCP
      obtain ⟨k, vk, hkl, rfl, hcp⟩ := hrel
      have HCP := Lib.hid hcp
      obtain ⟨d0, d1, d2, d3, d4, g0, g1, g2, g3, g4⟩ := NdBox.facts hcp.st.box
      obtain ⟨x0, x1, x2, x3, x4, y0, y1, y2, y3, y4⟩ := NdBoxV.facts hcp.out
      by_cases hlt : k < n.kids.length
      · obtain ⟨g, off, b', cap', rfl, hgB, c0, c1, c2, c3, c4, hkv⟩ := RowP_cells hcp.st.row k hlt
        have hBw := Nat.le_trans hcp.st.hB hcp.st.bel.size
        have HCALL := Lib.hid (fun (W : World) (hW : Below wr.heap.size wr W) => copy_use hcp hkl hW (HIH.out W k hlt _ (NdV_bel hkv (hW.mono hBw)) (Nat.le_trans hBw hW.size)))
        have hrl := hcp.hr
        have hpl := hcp.st.box.lt
        have hqr := hcp.qr
        have hwr := Nat.le_trans hcp.st.hp (Nat.le_of_lt (Nat.lt_trans hcp.pq hcp.qr))
        have hkl2 : (n.kids.take k).length = k := by rw [List.length_take]; omega
        generalize hkid : n.kids[k] = x at *
        have HX := Lib.hid hkid
        have HKL := Lib.hid hkl2
        clear hcp hkid hkv hkl2
        go_upto_region 6 with fail
        go_region_law (first | ((go_simp; (with_reducible refine (HCALL.out _ (Below.drew (Below.refl _ _))).mono ?_); rintro e w2 ⟨bu, cu, rfl, hru, hb2, hkr2, hln2, e2, f2, hs2⟩; have HLN := Lib.hid hln2; clear hln2)) | ((refine step_append_lies _ (by rfl) _ _ _ (by rfl) (r + 1) 24 i0 _ 5 64 (by kernel_rfl) hi hz0 hz1 hz2 (by rfl) (by decide) vk k hkr2.cells (by rfl) ((hkr2.own HLN.out).alloc _) ⟨w2.heap.size, 0, none⟩ 1 1 [.int .i64 x.kind, .string x.text, .slice bu x.kids.length cu, .int .i64 x.from', .int .i64 x.till] (by rfl) (by rfl) (World.news_of_block (heap_alloc_new _ _)) five_one (by decide) (by unfold maxLen; omega) (by omega) (by rw [World.size_alloc]; omega) (w2.heap.size + 1) (by simp) ?_; intro g1 cap1 w3 hown3 hgrow3 hat3 hlt3; have b3 := push_far hgrow3 (hkr2.own HLN.out) hs2; have e3 := (World.cell?_of_block (a := ⟨r, 2, none⟩) b3).trans e2; have f3 := (World.frozen?_of_block (a := ⟨r, 2, none⟩) b3).trans f2)))
        all_goals
          have hst3 := CpS.step HCP.out hlt HX.out hb2 hru hkr2 HKL.out hown3 hgrow3 hat3 hs2
          have HST3 := Lib.hid hst3
          clear hst3 hown3 hgrow3 hat3 hkr2 hru hb2
          go_wp2_with fail
          go_roundw
          case rel => exact ⟨k + 1, _, hlt, by go_num, HST3.out⟩
          case measure => simp [intOf]; omega
      · obtain rfl : k = n.kids.length := by omega
        obtain ⟨b', cap', rfl, hnv, hbel, hbox⟩ := hcp.done
        obtain ⟨u0, u1, u2, u3, u4, v0, v1, v2, v3, v4⟩ := NdBoxV.facts hcp.res
        have HNV := Lib.hid hnv
        have HBE := Lib.hid hbel
        have HBX := Lib.hid hbox
        clear hcp hnv hbel hbox
        go_wp2_with fail
        refine bodyPost_ret (results_nd rfl _ _ q rfl HBX.out) rfl ?_
        exact ⟨_, rfl, HNV.out, HBE.out⟩
end Go.Proofs.YteejjkfmmhegmaaGreatDoor
