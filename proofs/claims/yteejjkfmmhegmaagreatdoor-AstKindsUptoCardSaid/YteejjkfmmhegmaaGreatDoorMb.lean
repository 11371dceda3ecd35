/- Contracts of bare (the program's and the reference's). Condition: at most 2^22 nodes. | Contract of the program's bare (a node at a place). Condition: at most 2^22 nodes. | Trees lent with marked room behind each row: contracts of LendNode, roomNode, KeptNode, ShallowNode. Condition: at most 2^20 nodes. | Contracts of roomNode, KeptNode, ShallowNode. Condition: at most 2^22 nodes. -/
import Derived.Test.YteejjkfmmhegmaaGreatDoorMa
import Derived.Deep.LoopGhost
import Derived.StillTailTactics
namespace Go.Proofs.YteejjkfmmhegmaaGreatDoor
open Go.RowKit

theorem Nd.indS {P : Nd → Prop} (h : ∀ n, (∀ x, ndSize x < ndSize n → P x) → P n) (n : Nd) : P n := by
  have key : ∀ m n, ndSize n ≤ m → P n := by
    intro m
    induction m with
    | zero => intro n hn; rw [ndSize_eq] at hn; omega
    | succ m ih => intro n hn; exact h n fun x hx => ih x (by omega)
  exact key _ n (Nat.le_refl _)
/-- a node under way in its block r, its result's block q; xs: the kids so far. -/
structure OuS (w0 : World) (q r : Nat) (ok : Int) (ot : ByteArray) (f u : Int) (vk : Value) (xs : List Nd) (wr : World) : Prop where
  res : NdBoxV wr q 0 ⟨#[]⟩ (.slice none 0 0) 0 0
  out : NdBoxV wr r ok ot vk f u
  kr : KRow RowE wr (r + 1) vk xs
  bel : Below w0.heap.size w0 wr
  hq : w0.heap.size ≤ q
  qr : q < r
theorem OuS.bel' {w0 wr w' : World} {q r : Nat} {ok : Int} {ot : ByteArray} {f u : Int} {vk : Value} {xs : List Nd} (h : OuS w0 q r ok ot f u vk xs wr) (hb : Below wr.heap.size wr w') : OuS w0 q r ok ot f u vk xs w' :=
  ⟨h.res.bel hb, h.out.bel hb, h.kr.bel RowE.keeps hb, bel_next h.bel hb, h.hq, h.qr⟩
/-- one kid more. -/
theorem OuS.step {w0 wr w2 w3 : World} {q r m : Nat} {ok : Int} {ot : ByteArray} {f u : Int} {vk : Value} {xs : List Nd} {x : Nd} {bu : Option Addr} {cu g cap1 : Nat} {o : Obj} (h : OuS w0 q r ok ot f u vk xs wr)
    (hb2 : Below wr.heap.size wr w2) (hru : RowE w2 wr.heap.size w2.heap.size x bu cu) (hkr2 : KRow RowE w2 (r + 1) vk xs) (hlen : xs.length = m)
    (ho : w3.ownsRow (r + 1) 24 5 (.slice (some ⟨g, 0, none⟩) (m + 1) cap1) (m + 1) (hkr2.cells ++ (ndCells x.kind x.text bu x.kids.length cu x.from' x.till).toList))
    (hg : (w2.alloc o).grownBy w3 vk.ownBlock) (hat : vk.ownBlock = some g ∨ g = w2.heap.size + 1) :
    OuS w0 q r ok ot f u (.slice (some ⟨g, 0, none⟩) (m + 1) cap1) (xs ++ [x]) (w3.setCell ⟨r, 2, none⟩ (.slice (some ⟨g, 0, none⟩) (m + 1) cap1)) ∧ Below r wr (w3.setCell ⟨r, 2, none⟩ (.slice (some ⟨g, 0, none⟩) (m + 1) cap1)) := by
  have hown := hkr2.own hlen
  have hqr := h.qr
  have hwq := h.hq
  have hrl := h.out.lt
  have hs2 := hb2.size
  have hlow : Below r wr (w3.setCell ⟨r, 2, none⟩ (.slice (some ⟨g, 0, none⟩) (m + 1) cap1)) := by
    have h3 : Below r w2 w3 := by
      refine ((Below.refl r w2).alloc (by omega) o).grown hg (by rw [World.size_alloc]; omega) (fun i e => ?_)
      have := (hown.lt i e).1
      omega
    exact ((hb2.mono (by omega)).trans h3).setCell (p := ⟨r, 2, none⟩) (Nat.le_refl _) _
  have hkr : KRow RowE w3 (r + 1) (.slice (some ⟨g, 0, none⟩) (m + 1) cap1) (xs ++ [x]) :=
    KRow.push RowE.keeps hkr2 hlen (by omega) (fun i e => ((h.kr.own hlen).lt i e).2) (Nat.le_refl _) hru ho hg hat
  refine ⟨⟨(hlow.block q (by omega)).trans h.res, ?_, hkr.high RowE.keeps (by simp [World.setCell]) (fun i h1 _ => Below.heap_setCell _ _ _ _ (by show i ≠ r; omega)), h.bel.trans (hlow.mono (by omega)), hwq, hqr⟩, hlow⟩
  have h1 : w3.heap[r]? = some (.cells #[.int .i64 ok, .string ot, vk, .int .i64 f, .int .i64 u] 24 (0, 0)) := (push_far hg hown (by omega)).trans (h.out.bel hb2)
  exact heap_setCell_same w3 r 2 _ 24 (.slice (some ⟨g, 0, none⟩) (m + 1) cap1) h1
/-- the result. -/
theorem OuS.done {w0 wr : World} {q r : Nat} {n : Nd} {vk : Value} (h : OuS w0 q r n.kind n.text n.from' n.till vk n.kids wr) :
    ∃ b' cap', vk = .slice b' n.kids.length cap' ∧ NdW (lay5 wr q n.kind n.text (.slice b' n.kids.length cap') n.from' n.till) w0.heap.size (lay5 wr q n.kind n.text (.slice b' n.kids.length cap') n.from' n.till).heap.size n (.agg #[.int .i64 n.kind, .string n.text, .slice b' n.kids.length cap', .int .i64 n.from', .int .i64 n.till]) ∧
      Below w0.heap.size w0 (lay5 wr q n.kind n.text (.slice b' n.kids.length cap') n.from' n.till) ∧ NdBoxV (lay5 wr q n.kind n.text (.slice b' n.kids.length cap') n.from' n.till) q n.kind n.text (.slice b' n.kids.length cap') n.from' n.till := by
  have h1 := h.hq
  have h2 := h.qr
  obtain ⟨b', cap', hv, hc, hr, hr2⟩ := h.kr.row
  refine ⟨b', cap', hv, ⟨b', cap', rfl, ?_⟩, lay5_bel h.bel (by omega) _ _ _ _ _, h.res.lay⟩
  rw [lay5_size]
  exact RowE.keeps.k (by omega) (Nat.le_refl _) (fun i h4 _ => lay5_block _ _ _ _ _ _ _ _ (by omega)) ⟨hc, hr, hr2⟩
/-- what a round uses of the call. -/
theorem out_use {fn : Nat} {w0 wr W : World} {q r m : Nat} {ok : Int} {ot : ByteArray} {f u : Int} {vk : Value} {xs : List Nd} {x : Nd} {args : Array Value} (h : OuS w0 q r ok ot f u vk xs wr) (hm : xs.length = m) (hW : Below wr.heap.size wr W)
    (hc : Calls Tryz.prog fn args W fun e w' => ∃ u, e = .returned u ∧ NdW w' W.heap.size w'.heap.size x u ∧ Below W.heap.size W w') :
    Calls Tryz.prog fn args W fun e w' => ∃ bu cu, e = .returned (.agg #[.int .i64 x.kind, .string x.text, .slice bu x.kids.length cu, .int .i64 x.from', .int .i64 x.till]) ∧ RowE w' wr.heap.size w'.heap.size x bu cu ∧ Below wr.heap.size wr w' ∧
      KRow RowE w' (r + 1) vk xs ∧ xs.length = m ∧ w'.cell? ⟨r, 2, none⟩ = some vk ∧ w'.frozen? ⟨r, 2, none⟩ = false ∧ r < w'.heap.size := by
  refine hc.mono fun e w' => ?_
  rintro ⟨u, rfl, ⟨bu, cu, rfl, hru⟩, hb⟩
  have hb2 := hW.trans (hb.mono hW.size)
  have ho := h.out.bel hb2
  obtain ⟨_, _, e2, _, _, _, _, f2, _, _⟩ := NdBoxV.facts ho
  exact ⟨bu, cu, rfl, RowE.keeps.k hW.size (Nat.le_refl _) (fun _ _ _ => rfl) hru, hb2, h.kr.bel RowE.keeps hb2, hm, e2, f2, ho.lt⟩
theorem NdW.zero (w : World) (L B : Nat) : NdW w L B .zero (.agg #[.int .i64 0, .string ⟨#[]⟩, .slice none 0 0, .int .i64 0, .int .i64 0]) :=
  ⟨none, 0, rfl, Nat.le_refl _, by show RowP _ _ _ [] _ _; rw [RowP]; trivial, by show ShR _ _ _ [] _ _; rw [ShR]; trivial⟩
theorem bareFst_get {ks : List Nd} (h : 0 < ks.length) : bareFst ks = bareNd ks[0] := by
  cases ks with
  | nil => simp at h
  | cons k ks => rw [bareFst]; rfl
theorem NSt.to {w0 wr : World} {p L B : Nat} {m x : Nd} {b b2 : Option Addr} {cap cap2 : Nat} (h : NSt w0 p L B m b cap wr) (hv : NdV wr L B x (.agg #[.int .i64 x.kind, .string x.text, .slice b2 x.kids.length cap2, .int .i64 x.from', .int .i64 x.till])) :
    NSt w0 p L B x b2 cap2 (lay5 wr p x.kind x.text (.slice b2 x.kids.length cap2) x.from' x.till) := by
  obtain ⟨b3, cap3, e, hc, hr⟩ := hv
  have hb : b3 = b2 ∧ cap3 = cap2 := by
    unfold ndCells at e
    simp only [Value.agg.injEq, Array.mk.injEq, List.cons.injEq, Value.slice.injEq, true_and, and_true] at e
    exact ⟨e.1.symm, e.2.symm⟩
  obtain ⟨rfl, rfl⟩ := hb
  have h1 := h.hp
  have h2 := h.hB
  exact ⟨NdBoxV.lay h.box, RowP_bel hr (lay5_bel (Below.refl _ _) (by omega) _ _ _ _ _), lay5_bel h.bel h1 _ _ _ _ _, h1, h2⟩
/-- the reference's loop through the Parens: the box holds a node that is bare as n is. -/
def UnP (w0 : World) (p q L B : Nat) (n : Nd) (s : Nat) (wr : World) : Prop := ∃ (m : Nd) (b : Option Addr) (cap : Nat), ndSize m = s ∧ bareNd m = bareNd n ∧ ndSize m ≤ ndSize n ∧ NSt w0 p L B m b cap wr ∧ NdBoxV wr q 0 ⟨#[]⟩ (.slice none 0 0) 0 0
set_option maxRecDepth 20000 in
set_option maxHeartbeats 2000000 in
theorem rbare_any (n : Nd) : ∀ (v : Value) (w : World) (L B : Nat), NdV w L B n v → B ≤ w.heap.size → ndSize n ≤ 4194304 →
    Calls Tryz.prog 28 #[v] w fun e w' => ∃ u, e = .returned u ∧ NdW w' w.heap.size w'.heap.size (bareNd n) u ∧ Below w.heap.size w w' := by
  induction n using Nd.indS with
  | h n ih =>
    intro v w L B hv hB hsz
    obtain ⟨b, cap, rfl, hcap, hrow⟩ := hv
    unfold ndCells
    have HIH := Lib.hid (fun (W : World) (x : Nd) (hx : ndSize x < ndSize n) (v : Value) (hu : NdV W L B x v) (hW : B ≤ W.heap.size) => ih x hx v W L B hu hW (by omega))
    have HST := Lib.hid (NSt.new (cap := cap) hrow hB)
    clear hrow ih
    go_enter Tryz.func28, Tryz.ntmps28
    have hS : NSt w w.heap.size L B n b cap ((w.alloc (.cells #[.int .i64 n.kind, .string n.text, .slice b n.kids.length cap, .int .i64 n.from', .int .i64 n.till] 24)).alloc (.cells #[.int .i64 0, .string ⟨#[]⟩, .slice none 0 0, .int .i64 0, .int .i64 0] 24)) := HST.out.bel' (Below.alloc (Below.refl _ _) (Nat.le_refl _) _)
    have hQ : NdBoxV ((w.alloc (.cells #[.int .i64 n.kind, .string n.text, .slice b n.kids.length cap, .int .i64 n.from', .int .i64 n.till] 24)).alloc (.cells #[.int .i64 0, .string ⟨#[]⟩, .slice none 0 0, .int .i64 0, .int .i64 0] 24)) (w.heap.size + 1) 0 ⟨#[]⟩ (.slice none 0 0) 0 0 := by
      have := heap_alloc_new (w.alloc (.cells #[.int .i64 n.kind, .string n.text, .slice b n.kids.length cap, .int .i64 n.from', .int .i64 n.till] 24)) (.cells #[.int .i64 0, .string ⟨#[]⟩, .slice none 0 0, .int .i64 0, .int .i64 0] 24)
      rw [World.size_alloc] at this
      exact this
    obtain ⟨i0, hi, hz0, hz1, hz2⟩ := info_parts infoNd
    go_wp2_with fail
    generalize World.alloc (World.alloc w _) _ = w1 at *
    generalize hp : w.heap.size = p at hS hQ
    generalize hq : p + 1 = q at *
    have HP := Lib.hid hp
    have HQ := Lib.hid hq
    have HUN := Lib.hid (show UnP w p q L B n (ndSize n) w1 from ⟨n, b, cap, rfl, rfl, Nat.le_refl _, hS, hQ⟩)
    have hpq : p < q := by omega
    clear hp hq hS hQ HST
    go_loopg [] (ndSize n) (fun s wr => UnP w p q L B n s wr)
    case atStart => exact HUN.out
    case round =>
      clear HUN
      obtain ⟨m, b1, cap1, hms, hbm, hle, hst, hres⟩ := hrel
      have HMS := Lib.hid hms
      have HBM := Lib.hid hbm
      have HST := Lib.hid hst
      have HRES := Lib.hid hres
      obtain ⟨d0, d1, d2, d3, d4, g0, g1, g2, g3, g4⟩ := NdBox.facts hst.box
      obtain ⟨x0, x1, x2, x3, x4, y0, y1, y2, y3, y4⟩ := NdBoxV.facts hres
      have hkc := kid_count m
      clear hms hbm hst hres
      by_cases hk : m.kind = 26
      · have e1 : (m.kind == 26) = true := by rw [hk]; rfl
        by_cases h0 : m.kids.length = 0
        · have e2 : (((m.kids.length : Nat) : Int) == 0) = true := by rw [h0]; rfl
          have HB := Lib.hid (show bareNd n = .zero by
            rw [← HBM.out, bareNd_eq, if_pos hk, List.length_eq_zero_iff.1 h0, bareFst])
          clear hk h0
          go_wp2_with fail
          refine bodyPost_ret (results_nd rfl _ _ q rfl (HRES.out.lay (k := 0) (t := ⟨#[]⟩) (v := .slice none 0 0) (f := 0) (u := 0))) rfl ?_
          refine ⟨_, rfl, by rw [HB.out]; exact NdW.zero _ _ _, lay5_bel HST.out.bel (by have := HST.out.hp; omega) _ _ _ _ _⟩
        · have h00 : 0 < m.kids.length := by omega
          have e2 : (((m.kids.length : Nat) : Int) == 0) = false := by rw [beq_eq_false_iff_ne]; omega
          obtain ⟨g, off, b2, cap2, rfl, hgB, c0, c1, c2, c3, c4, hkv⟩ := RowP_cells HST.out.row 0 h00
          have HKB := Lib.hid (show bareNd m.kids[0] = bareNd n by rw [← HBM.out, bareNd_eq m, if_pos hk, bareFst_get h00])
          have HKS := Lib.hid (show ndSize m.kids[0] < gk by rw [← HMS.out]; exact kid_size h00)
          have HGK := Lib.hid (show ndSize m.kids[0] ≤ ndSize n by have := kid_size h00; omega)
          generalize m.kids[0] = x at *
          rw [Nat.zero_mul] at c0 c1 c2 c3 c4
          simp only [Nat.add_zero] at c0 c1 c2 c3 c4
          have HKV := Lib.hid hkv
          have hgw := Nat.lt_of_lt_of_le hgB (Nat.le_trans HST.out.hB HST.out.bel.size)
          clear hk h0 hkv
          go_wp2_with fail
          go_roundg (ndSize x)
          case measure => exact HKS.out
          case rel => exact ⟨x, b2, cap2, rfl, HKB.out, HGK.out, HST.out.to HKV.out, (lay5_block wr p x.kind x.text (.slice b2 x.kids.length cap2) x.from' x.till q (by omega)).trans HRES.out⟩
      · have e1 : (m.kind == 26) = false := by rw [beq_eq_false_iff_ne]; exact hk
        have HBE := Lib.hid (show bareNd n = .mk m.kind m.text (m.kids.map bareNd) 0 0 by rw [← HBM.out, bareNd_eq, if_neg hk])
        clear hk
        go_upto_region 6 with fail
        have hST2 : NSt w p L B m b1 cap1 (wr.alloc (.cells #[.int .i64 m.kind, .string m.text, .slice none 0 0, .int .i64 0, .int .i64 0] 24)) := HST.out.bel' (Below.alloc (Below.refl _ _) (Nat.le_refl _) _)
        have hOU : OuS w q wr.heap.size m.kind m.text 0 0 (.slice none 0 0) ((m.kids.take 0).map bareNd) (wr.alloc (.cells #[.int .i64 m.kind, .string m.text, .slice none 0 0, .int .i64 0, .int .i64 0] 24)) :=
          ⟨HRES.out.bel (Below.alloc (Below.refl _ _) (Nat.le_refl _) _), heap_alloc_new _ _, KRow.nil _ _ _, hST2.bel, by have := HST.out.hp; omega, HRES.out.lt⟩
        generalize hw2 : World.alloc wr _ = w2 at *
        generalize hr : wr.heap.size = r at *
        have HS2 := Lib.hid hST2
        have HOU := Lib.hid hOU
        have HSZ := Lib.hid hle
        clear hw2 hr hST2 hOU x0 x1 x2 x3 x4 y0 y1 y2 y3 y4 d0 d1 d2 d3 d4 g0 g1 g2 g3 g4
        clear HST HRES
        go_wp2_with fail
        go_loopw [4] (fun i wr => ∃ (k : Nat) (vk : Value), k ≤ m.kids.length ∧ i = .int .i64 k ∧ NSt w p L B m b1 cap1 wr ∧ OuS w q r m.kind m.text 0 0 vk ((m.kids.take k).map bareNd) wr) (fun i _ => m.kids.length - (intOf i).toNat)
        case atStart => exact ⟨0, _, Nat.zero_le _, rfl, HS2.out, HOU.out⟩
        case round =>
          clear HS2 HOU
          obtain ⟨k, vk, hkl, rfl, hst, hou⟩ := hrel
          have HS3 := Lib.hid hst
          have HO3 := Lib.hid hou
          obtain ⟨d0, d1, d2, d3, d4, g0, g1, g2, g3, g4⟩ := NdBox.facts hst.box
          obtain ⟨x0, x1, x2, x3, x4, y0, y1, y2, y3, y4⟩ := NdBoxV.facts hou.out
          by_cases hlt : k < m.kids.length
          · obtain ⟨g, off, b', cap', rfl, hgB, c0, c1, c2, c3, c4, hkv⟩ := RowP_cells hst.row k hlt
            have hBw := Nat.le_trans hst.hB hst.bel.size
            have hkl2 : ((m.kids.take k).map bareNd).length = k := by rw [List.length_map, List.length_take]; omega
            have HKS := Lib.hid (show ndSize m.kids[k] < ndSize n by have := kid_size hlt; have := HSZ.out; omega)
            have HCALL := Lib.hid (fun (W : World) (hW : Below wr.heap.size wr W) => out_use hou hkl2 hW (HIH.out W _ HKS.out _ (NdV_bel hkv (hW.mono hBw)) (Nat.le_trans hBw hW.size)))
            have HTK := Lib.hid (show (m.kids.take (k + 1)).map bareNd = (m.kids.take k).map bareNd ++ [bareNd m.kids[k]] by rw [List.take_succ_eq_append_getElem hlt, List.map_append]; rfl)
            have hrl := hou.out.lt
            have hpl := hst.box.lt
            have hpr : p < r := by have := hou.qr; omega
            have hwr := Nat.le_trans hou.hq (Nat.le_of_lt hou.qr)
            generalize hys : (m.kids.take k).map bareNd = ys at *
            generalize hyd : bareNd m.kids[k] = y at *
            generalize m.kids[k] = x at *
            have HKL := Lib.hid hkl2
            clear hst hou hkv hkl2 hys hyd HKS
            go_upto_region 9 with fail
            go_region_law (first | ((go_simp; (with_reducible refine (HCALL.out _ (Below.drew (Below.refl _ _))).mono ?_); rintro e w2 ⟨bu, cu, rfl, hru, hb2, hkr2, hln2, e2, f2, hs2⟩; have HLN := Lib.hid hln2; clear hln2)) | ((refine step_append_lies _ (by rfl) _ _ _ (by rfl) (r + 1) 24 i0 _ 5 64 (by kernel_rfl) hi hz0 hz1 hz2 (by rfl) (by decide) vk k hkr2.cells (by rfl) ((hkr2.own HLN.out).alloc _) ⟨w2.heap.size, 0, none⟩ 1 1 [.int .i64 y.kind, .string y.text, .slice bu y.kids.length cu, .int .i64 y.from', .int .i64 y.till] (by rfl) (by rfl) (World.news_of_block (heap_alloc_new _ _)) five_one (by decide) (by unfold maxLen; omega) (by omega) (by rw [World.size_alloc]; omega) (w2.heap.size + 1) (by simp) ?_; intro g1 cap1 w3 hown3 hgrow3 hat3 hlt3; have b3 := push_far hgrow3 (hkr2.own HLN.out) hs2; have e3 := (World.cell?_of_block (a := ⟨r, 2, none⟩) b3).trans e2; have f3 := (World.frozen?_of_block (a := ⟨r, 2, none⟩) b3).trans f2)))
            all_goals
              have hst3 := OuS.step HO3.out hb2 hru hkr2 HKL.out hown3 hgrow3 hat3
              have HST3 := Lib.hid hst3
              clear hst3 hown3 hgrow3 hat3 hkr2 hru hb2
              go_wp2_with fail
              go_roundw
              case rel => exact ⟨k + 1, _, hlt, by go_num, HS3.out.low HST3.out.2 hpr, by rw [HTK.out]; exact HST3.out.1⟩
              case measure => simp [intOf]; omega
          · obtain rfl : k = m.kids.length := by omega
            rw [List.take_length] at hou
            obtain ⟨b', cap', hvk, hnv, hbel, hbox⟩ := OuS.done (n := .mk m.kind m.text (m.kids.map bareNd) 0 0) hou
            simp only [Nd.kind, Nd.text, Nd.kids, Nd.from', Nd.till, List.length_map] at hvk hnv hbel hbox
            subst hvk
            obtain ⟨u0, u1, u2, u3, u4, v0, v1, v2, v3, v4⟩ := NdBoxV.facts hou.res
            have HNV := Lib.hid hnv
            have HBL := Lib.hid hbel
            have HBX := Lib.hid hbox
            clear hst hou hnv hbel hbox
            go_wp2_with fail
            refine bodyPost_ret (results_nd rfl _ _ q rfl HBX.out) rfl ?_
            exact ⟨_, rfl, by rw [HBE.out]; exact HNV.out, HBL.out⟩
end Go.Proofs.YteejjkfmmhegmaaGreatDoor
namespace Go.Proofs.YteejjkfmmhegmaaGreatDoor
open Go.RowKit

/-- the loop through the Parens: the place holds a node that is bare as n is. -/
def UnB (w0 : World) (q L B : Nat) (n : Nd) (s : Nat) (v : Value) (wr : World) : Prop := ∃ (m : Nd) (g o : Nat), ndSize m = s ∧ v = .pointer (some ⟨g, o, none⟩) ∧ bareNd m = bareNd n ∧ ndSize m ≤ ndSize n ∧ NdC wr L B m g o ∧ NdBoxV wr q 0 ⟨#[]⟩ (.slice none 0 0) 0 0 ∧ Below w0.heap.size w0 wr
theorem kidC {w : World} {L B : Nat} {a : Option Addr} {ks : List Nd} (h : RowP w L B ks a 0) (j : Nat) (hj : j < ks.length) : ∃ g off, a = some ⟨g, off, none⟩ ∧ g < B ∧ NdC w L B ks[j] g (off + j * 5) := by
  obtain ⟨g, off, ha, hn⟩ := RowP_get h j hj
  rw [Nat.zero_add] at hn
  have h2 := hn
  rw [NdC_eq] at h2
  obtain ⟨_, _, _, h3, _⟩ := h2
  exact ⟨g, off, ha, h3, hn⟩
set_option maxRecDepth 20000 in
set_option maxHeartbeats 2000000 in
theorem bare_any (n : Nd) : ∀ (g o : Nat) (w : World) (L B : Nat), NdC w L B n g o → B ≤ w.heap.size → ndSize n ≤ 4194304 →
    Calls Tryz.prog 26 #[.pointer (some ⟨g, o, none⟩)] w fun e w' => ∃ u, e = .returned u ∧ NdW w' w.heap.size w'.heap.size (bareNd n) u ∧ Below w.heap.size w w' := by
  induction n using Nd.indS with
  | h n ih =>
    intro g o w L B hn hB hsz
    have HIH := Lib.hid (fun (W : World) (x : Nd) (hx : ndSize x < ndSize n) (g o : Nat) (hu : NdC W L B x g o) (hW : B ≤ W.heap.size) => ih x hx g o W L B hu hW (by omega))
    clear ih
    go_enter Tryz.func26, Tryz.ntmps26
    have hS : NdC (w.alloc (.cells #[.int .i64 0, .string ⟨#[]⟩, .slice none 0 0, .int .i64 0, .int .i64 0] 24)) L B n g o := NdC_bel hn ((Below.alloc (Below.refl _ _) (Nat.le_refl _) _).mono hB)
    have hQ : NdBoxV (w.alloc (.cells #[.int .i64 0, .string ⟨#[]⟩, .slice none 0 0, .int .i64 0, .int .i64 0] 24)) w.heap.size 0 ⟨#[]⟩ (.slice none 0 0) 0 0 := heap_alloc_new _ _
    have hBl : Below w.heap.size w (w.alloc (.cells #[.int .i64 0, .string ⟨#[]⟩, .slice none 0 0, .int .i64 0, .int .i64 0] 24)) := Below.alloc (Below.refl _ _) (Nat.le_refl _) _
    obtain ⟨i0, hi, hz0, hz1, hz2⟩ := info_parts infoNd
    go_wp2_with fail
    generalize World.alloc w _ = w1 at *
    generalize hq : w.heap.size = q at hS hQ
    have HQ := Lib.hid hq
    have HUN := Lib.hid (show UnB w q L B n (ndSize n) (.pointer (some ⟨g, o, none⟩)) w1 from ⟨n, g, o, rfl, rfl, rfl, Nat.le_refl _, hS, hQ, hBl⟩)
    clear hq hS hQ hn hBl
    go_loopg [0] (ndSize n) (fun s v wr => UnB w q L B n s v wr)
    case atStart => exact HUN.out
    case round =>
      clear HUN
      obtain ⟨m, g, o, hms, rfl, hbm, hle, hnc, hres, hbl⟩ := hrel
      have HMS := Lib.hid hms
      have HBM := Lib.hid hbm
      have HRES := Lib.hid hres
      have HBL := Lib.hid hbl
      have HNC := Lib.hid hnc
      rw [NdC_eq] at hnc
      obtain ⟨b1, cap1, hL1, hg1, d0, d1, d2, d3, d4, hcap1, hrow1⟩ := hnc
      have hgw : g < wr.heap.size := Nat.lt_of_lt_of_le hg1 (Nat.le_trans hB hbl.size)
      obtain ⟨x0, x1, x2, x3, x4, y0, y1, y2, y3, y4⟩ := NdBoxV.facts hres
      have hkc := kid_count m
      clear hms hbm hres hbl
      have HROW := Lib.hid hrow1
      clear hrow1
      by_cases hk : m.kind = 26
      · have e1 : (m.kind == 26) = true := by rw [hk]; rfl
        by_cases h0 : m.kids.length = 0
        · have e2 : (((m.kids.length : Nat) : Int) == 0) = true := by rw [h0]; rfl
          have HB := Lib.hid (show bareNd n = .zero by
            rw [← HBM.out, bareNd_eq, if_pos hk, List.length_eq_zero_iff.1 h0, bareFst])
          clear hk h0
          go_wp2_with fail
          refine bodyPost_ret (results_nd rfl _ _ q rfl (HRES.out.lay (k := 0) (t := ⟨#[]⟩) (v := .slice none 0 0) (f := 0) (u := 0))) rfl ?_
          refine ⟨_, rfl, by rw [HB.out]; exact NdW.zero _ _ _, lay5_bel HBL.out (by have := HQ.out; omega) _ _ _ _ _⟩
        · have h00 : 0 < m.kids.length := by omega
          have e2 : (((m.kids.length : Nat) : Int) == 0) = false := by rw [beq_eq_false_iff_ne]; omega
          obtain ⟨g2, off, rfl, hgB, hkn⟩ := kidC HROW.out 0 h00
          have HKB := Lib.hid (show bareNd m.kids[0] = bareNd n by rw [← HBM.out, bareNd_eq m, if_pos hk, bareFst_get h00])
          have HKS := Lib.hid (show ndSize m.kids[0] < gk by rw [← HMS.out]; exact kid_size h00)
          have HGK := Lib.hid (show ndSize m.kids[0] ≤ ndSize n by have := kid_size h00; omega)
          generalize m.kids[0] = x at *
          rw [Nat.zero_mul, Nat.add_zero] at hkn
          have HKN := Lib.hid hkn
          clear hk h0 hkn
          go_wp2_with fail
          go_roundg (ndSize x)
          case measure => exact HKS.out
          case rel => exact ⟨x, g2, off, rfl, by simp, HKB.out, HGK.out, HKN.out, HRES.out, HBL.out⟩
      · have e1 : (m.kind == 26) = false := by rw [beq_eq_false_iff_ne]; exact hk
        have HBE := Lib.hid (show bareNd n = .mk m.kind m.text (m.kids.map bareNd) 0 0 by rw [← HBM.out, bareNd_eq, if_neg hk])
        clear hk
        go_upto_region 5 with fail
        go_region
        have hbd : Below wr.heap.size wr (wr.alloc (.cells #[.int .i64 m.kind, .string m.text, .slice none 0 0, .int .i64 0, .int .i64 0] 24)).drew := Below.drew (Below.alloc (Below.refl _ _) (Nat.le_refl _) _)
        have hNC2 : NdC (wr.alloc (.cells #[.int .i64 m.kind, .string m.text, .slice none 0 0, .int .i64 0, .int .i64 0] 24)).drew L B m g o := NdC_bel HNC.out (hbd.mono (Nat.le_trans hB HBL.out.size))
        have hOU : OuS w q wr.heap.size m.kind m.text 0 0 (.slice none 0 0) ((m.kids.take 0).map bareNd) (wr.alloc (.cells #[.int .i64 m.kind, .string m.text, .slice none 0 0, .int .i64 0, .int .i64 0] 24)).drew :=
          ⟨HRES.out.bel hbd, heap_alloc_new wr _, KRow.nil _ _ _, bel_next HBL.out hbd, by have := HQ.out; omega, HRES.out.lt⟩
        clear hbd
        generalize hw2 : World.drew (World.alloc wr _) = w2 at *
        generalize hr : wr.heap.size = r at *
        have HS2 := Lib.hid hNC2
        have HOU := Lib.hid hOU
        have HSZ := Lib.hid hle
        clear hw2 hr hNC2 hOU x0 x1 x2 x3 x4 y0 y1 y2 y3 y4 d0 d1 d2 d3 d4 HROW
        clear HRES HNC HBL
        have HST0 := Lib.hid (show ∃ (b2 : Option Addr) (cap2 : Nat), w2.cell? ⟨g, o + 2, none⟩ = some (.slice b2 m.kids.length cap2) ∧ g < w2.heap.size from by
          have h := HS2.out
          rw [NdC_eq] at h
          obtain ⟨b2, cap2, _, hg2, _, _, z2, _⟩ := h
          exact ⟨b2, cap2, z2, Nat.lt_of_lt_of_le hg2 (Nat.le_trans hB HOU.out.bel.size)⟩)
        obtain ⟨b2, cap2, z2, hgr⟩ := HST0.out
        clear HST0
        go_wp2_with fail
        clear z2
        go_loopw [36] (fun i wr => ∃ (k : Nat) (vk : Value), k ≤ m.kids.length ∧ i = .int .i64 k ∧ NdC wr L B m g o ∧ OuS w q r m.kind m.text 0 0 vk ((m.kids.take k).map bareNd) wr) (fun i _ => m.kids.length - (intOf i).toNat)
        case atStart => exact ⟨0, _, Nat.zero_le _, rfl, HS2.out, HOU.out⟩
        case round =>
          clear HS2 HOU
          obtain ⟨k, vk, hkl, rfl, hst, hou⟩ := hrel
          have HS3 := Lib.hid hst
          have HO3 := Lib.hid hou
          rw [NdC_eq] at hst
          obtain ⟨b3, cap3, _, hg3, d0, d1, d2, d3, d4, hcap3, hrow3⟩ := hst
          have hBw := Nat.le_trans hB hou.bel.size
          have hgw3 : g < wr.heap.size := Nat.lt_of_lt_of_le hg3 hBw
          obtain ⟨x0, x1, x2, x3, x4, y0, y1, y2, y3, y4⟩ := NdBoxV.facts hou.out
          by_cases hlt : k < m.kids.length
          · obtain ⟨g2, off, rfl, hgB, hkn⟩ := kidC hrow3 k hlt
            have hkl2 : ((m.kids.take k).map bareNd).length = k := by rw [List.length_map, List.length_take]; omega
            have HKS := Lib.hid (show ndSize m.kids[k] < ndSize n by have := kid_size hlt; have := HSZ.out; omega)
            have HCALL := Lib.hid (fun (W : World) (hW : Below wr.heap.size wr W) => out_use hou hkl2 hW (HIH.out W _ HKS.out _ _ (NdC_bel hkn (hW.mono hBw)) (Nat.le_trans hBw hW.size)))
            have HTK := Lib.hid (show (m.kids.take (k + 1)).map bareNd = (m.kids.take k).map bareNd ++ [bareNd m.kids[k]] by rw [List.take_succ_eq_append_getElem hlt, List.map_append]; rfl)
            have hrl := hou.out.lt
            have hBr : B ≤ r := Nat.le_trans hB (Nat.le_trans hou.hq (Nat.le_of_lt hou.qr))
            have hwr := Nat.le_trans hou.hq (Nat.le_of_lt hou.qr)
            generalize hys : (m.kids.take k).map bareNd = ys at *
            generalize hyd : bareNd m.kids[k] = y at *
            generalize m.kids[k] = x at *
            have HKL := Lib.hid hkl2
            clear hou hkn hkl2 hys hyd HKS hrow3
            go_upto_region 9 with fail
            go_region_law (first | ((go_simp; (with_reducible refine (HCALL.out _ (Below.drew (Below.refl _ _))).mono ?_); rintro e w2 ⟨bu, cu, rfl, hru, hb2, hkr2, hln2, e2, f2, hs2⟩; have HLN := Lib.hid hln2; clear hln2)) | ((refine step_append_lies _ (by rfl) _ _ _ (by rfl) (r + 1) 24 i0 _ 5 64 (by kernel_rfl) hi hz0 hz1 hz2 (by rfl) (by decide) vk k hkr2.cells (by rfl) ((hkr2.own HLN.out).alloc _) ⟨w2.heap.size, 0, none⟩ 1 1 [.int .i64 y.kind, .string y.text, .slice bu y.kids.length cu, .int .i64 y.from', .int .i64 y.till] (by rfl) (by rfl) (World.news_of_block (heap_alloc_new _ _)) five_one (by decide) (by unfold maxLen; omega) (by omega) (by rw [World.size_alloc]; omega) (w2.heap.size + 1) (by simp) ?_; intro g1 cap1 w3 hown3 hgrow3 hat3 hlt3; have b3 := push_far hgrow3 (hkr2.own HLN.out) hs2; have e3 := (World.cell?_of_block (a := ⟨r, 2, none⟩) b3).trans e2; have f3 := (World.frozen?_of_block (a := ⟨r, 2, none⟩) b3).trans f2)))
            all_goals
              have hst3 := OuS.step HO3.out hb2 hru hkr2 HKL.out hown3 hgrow3 hat3
              have HST3 := Lib.hid hst3
              clear hst3 hown3 hgrow3 hat3 hkr2 hru hb2
              go_wp2_with fail
              go_roundw
              case rel => exact ⟨k + 1, _, hlt, by go_num, NdC_bel HS3.out (HST3.out.2.mono hBr), by rw [HTK.out]; exact HST3.out.1⟩
              case measure => simp [intOf]; omega
          · obtain rfl : k = m.kids.length := by omega
            rw [List.take_length] at hou
            obtain ⟨b', cap', hvk, hnv, hbel, hbox⟩ := OuS.done (n := .mk m.kind m.text (m.kids.map bareNd) 0 0) hou
            simp only [Nd.kind, Nd.text, Nd.kids, Nd.from', Nd.till, List.length_map] at hvk hnv hbel hbox
            subst hvk
            obtain ⟨u0, u1, u2, u3, u4, v0, v1, v2, v3, v4⟩ := NdBoxV.facts hou.res
            have HNV := Lib.hid hnv
            have HBL := Lib.hid hbel
            have HBX := Lib.hid hbox
            clear hou hnv hbel hbox hrow3
            go_wp2_with fail
            refine bodyPost_ret (results_nd rfl _ _ q rfl HBX.out) rfl ?_
            exact ⟨_, rfl, by rw [HBE.out]; exact HNV.out, HBL.out⟩
end Go.Proofs.YteejjkfmmhegmaaGreatDoor
namespace Go.Proofs.YteejjkfmmhegmaaGreatDoor
open Go.RowKit

/-- the mark. -/
def mk7 : Nd := .mk (-7) ⟨#[]⟩ [] 0 0
/-- two marks behind m nodes. -/
def Mk7 (w : World) (L B : Nat) (b : Option Addr) (m : Nat) : Prop := ∃ g off, b = some ⟨g, off, none⟩ ∧ NdC w L B mk7 g (off + m * 5) ∧ NdC w L B mk7 g (off + (m + 1) * 5)
theorem Mk7.keep {w w' : World} {L B L' B' : Nat} (hL : L' ≤ L) (hB : B ≤ B') (hk : ∀ k, L ≤ k → k < B → w'.heap[k]? = w.heap[k]?) {b : Option Addr} {m : Nat} (h : Mk7 w L B b m) : Mk7 w' L' B' b m := by
  obtain ⟨g, off, e, h1, h2⟩ := h
  exact ⟨g, off, e, NdC_keep hL hB hk _ _ _ h1, NdC_keep hL hB hk _ _ _ h2⟩
/- a node at a place, each row with marked room behind it. -/
mutual
def LnC (w : World) (L B : Nat) : Nd → Nat → Nat → Prop
  | .mk k t ks f u, g, o => ∃ b cap, L ≤ g ∧ g < B ∧ w.cell? ⟨g, o, none⟩ = some (.int .i64 k) ∧ w.cell? ⟨g, o + 1, none⟩ = some (.string t) ∧
      w.cell? ⟨g, o + 2, none⟩ = some (.slice b ks.length cap) ∧ w.cell? ⟨g, o + 3, none⟩ = some (.int .i64 f) ∧ w.cell? ⟨g, o + 4, none⟩ = some (.int .i64 u) ∧ ks.length + 2 ≤ cap ∧ LnR w L B ks b 0 ∧ Mk7 w L B b ks.length
def LnR (w : World) (L B : Nat) : List Nd → Option Addr → Nat → Prop
  | [], _, _ => True
  | k :: ks, a, i => (∃ g off, a = some ⟨g, off, none⟩ ∧ LnC w L B k g (off + i * 5)) ∧ LnR w L B ks a (i + 1)
end
theorem LnC_eq (w : World) (L B : Nat) (n : Nd) (g o : Nat) : LnC w L B n g o = ∃ b cap, L ≤ g ∧ g < B ∧ w.cell? ⟨g, o, none⟩ = some (.int .i64 n.kind) ∧ w.cell? ⟨g, o + 1, none⟩ = some (.string n.text) ∧
      w.cell? ⟨g, o + 2, none⟩ = some (.slice b n.kids.length cap) ∧ w.cell? ⟨g, o + 3, none⟩ = some (.int .i64 n.from') ∧ w.cell? ⟨g, o + 4, none⟩ = some (.int .i64 n.till) ∧ n.kids.length + 2 ≤ cap ∧ LnR w L B n.kids b 0 ∧ Mk7 w L B b n.kids.length := by
  cases n
  rw [LnC]
  rfl
theorem LnR_get {w : World} {L B : Nat} {a : Option Addr} : ∀ {ks : List Nd} {i : Nat}, LnR w L B ks a i → ∀ j, (h : j < ks.length) → ∃ g off, a = some ⟨g, off, none⟩ ∧ LnC w L B ks[j] g (off + (i + j) * 5)
  | [], _, _, j, h => absurd h (by simp)
  | k :: ks, i, hr, j, h => by
    rw [LnR] at hr
    cases j with
    | zero => exact hr.1
    | succ j =>
      have := LnR_get hr.2 j (by simpa using h)
      rw [show i + 1 + j = i + (j + 1) by omega] at this
      exact this
theorem LnR_of {w : World} {L B : Nat} {a : Option Addr} : ∀ {ks : List Nd} {i : Nat}, (∀ j, (h : j < ks.length) → ∃ g off, a = some ⟨g, off, none⟩ ∧ LnC w L B ks[j] g (off + (i + j) * 5)) → LnR w L B ks a i
  | [], _, _ => by rw [LnR]; trivial
  | k :: ks, i, h => by
    rw [LnR]
    refine ⟨h 0 (by simp), LnR_of fun j hj => ?_⟩
    have := h (j + 1) (by simpa using hj)
    rw [show i + 1 + j = i + (j + 1) by omega]
    exact this
theorem LnC_keep {w w' : World} {L B L' B' : Nat} (hL : L' ≤ L) (hB : B ≤ B') (hk : ∀ k, L ≤ k → k < B → w'.heap[k]? = w.heap[k]?) (n : Nd) : ∀ g o, LnC w L B n g o → LnC w' L' B' n g o := by
  induction n using Nd.ind with
  | h n ih =>
    intro g o h
    rw [LnC_eq] at h ⊢
    obtain ⟨b, cap, h2, h3, c0, c1, c2, c3, c4, hc, hr, hm⟩ := h
    have hcell : ∀ o, w'.cell? ⟨g, o, none⟩ = w.cell? ⟨g, o, none⟩ := fun o => World.cell?_of_block (hk g h2 h3)
    refine ⟨b, cap, by omega, by omega, ?_, ?_, ?_, ?_, ?_, hc, LnR_of fun j hj => ?_, hm.keep hL hB hk⟩
    · rw [hcell]; exact c0
    · rw [hcell]; exact c1
    · rw [hcell]; exact c2
    · rw [hcell]; exact c3
    · rw [hcell]; exact c4
    · obtain ⟨g', off, ha, hn⟩ := LnR_get hr j hj
      exact ⟨g', off, ha, ih _ (List.getElem_mem hj) _ _ hn⟩
theorem LnR_keep {w w' : World} {L B L' B' : Nat} (hL : L' ≤ L) (hB : B ≤ B') (hk : ∀ k, L ≤ k → k < B → w'.heap[k]? = w.heap[k]?) {ks : List Nd} {a : Option Addr} {i : Nat} (h : LnR w L B ks a i) : LnR w' L' B' ks a i :=
  LnR_of fun j hj => by
    obtain ⟨g, off, ha, hn⟩ := LnR_get h j hj
    exact ⟨g, off, ha, LnC_keep hL hB hk _ _ _ hn⟩
theorem LnC.ndc {w : World} {L B : Nat} (n : Nd) : ∀ g o, LnC w L B n g o → NdC w L B n g o := by
  induction n using Nd.ind with
  | h n ih =>
    intro g o h
    rw [LnC_eq] at h
    rw [NdC_eq]
    obtain ⟨b, cap, h2, h3, c0, c1, c2, c3, c4, hc, hr, hm⟩ := h
    exact ⟨b, cap, h2, h3, c0, c1, c2, c3, c4, by omega, RowP_of fun j hj => by
      obtain ⟨g', off, ha, hn⟩ := LnR_get hr j hj
      exact ⟨g', off, ha, ih _ (List.getElem_mem hj) _ _ hn⟩⟩
theorem LnR.rowP {w : World} {L B : Nat} {ks : List Nd} {a : Option Addr} {i : Nat} (h : LnR w L B ks a i) : RowP w L B ks a i :=
  RowP_of fun j hj => by
    obtain ⟨g, off, ha, hn⟩ := LnR_get h j hj
    exact ⟨g, off, ha, LnC.ndc _ _ _ hn⟩
/-- a kid's row, lent. -/
def RowLn (w : World) (L B : Nat) (x : Nd) (b : Option Addr) (c : Nat) : Prop := x.kids.length + 2 ≤ c ∧ LnR w L B x.kids b 0 ∧ Mk7 w L B b x.kids.length
theorem RowLn.keeps : Keeps RowLn := ⟨fun hL hB hk ⟨h1, h2, h3⟩ => ⟨h1, LnR_keep hL hB hk h2, h3.keep hL hB hk⟩⟩
/-- a lent node's value. -/
def LnV (w : World) (L B : Nat) (n : Nd) (v : Value) : Prop := ∃ b cap, v = .agg #[.int .i64 n.kind, .string n.text, .slice b n.kids.length cap, .int .i64 n.from', .int .i64 n.till] ∧ RowLn w L B n b cap
theorem LnV.v {w : World} {L B : Nat} {n : Nd} {v : Value} (h : LnV w L B n v) : NdV w L B n v := by
  obtain ⟨b, cap, h1, h2, h3, _⟩ := h
  exact ⟨b, cap, h1, by omega, h3.rowP⟩
theorem LnV.bel {w w' : World} {L B : Nat} {n : Nd} {v : Value} (h : LnV w L B n v) (hb : Below B w w') : LnV w' L B n v := by
  obtain ⟨b, cap, h1, h2⟩ := h
  exact ⟨b, cap, h1, RowLn.keeps.k (Nat.le_refl _) (Nat.le_refl _) (fun k _ hk => hb.block k hk) h2⟩
/-- two marks' cells. -/
def mk7s : List Value := [.int .i64 (-7), .string ⟨#[]⟩, .slice none 0 0, .int .i64 0, .int .i64 0, .int .i64 (-7), .string ⟨#[]⟩, .slice none 0 0, .int .i64 0, .int .i64 0]
/-- the row with its marks. -/
theorem KRow.mark {w1 w2 : World} {base m : Nat} {v : Value} {xs : List Nd} {g cap2 : Nat} {o : Obj} (h : KRow RowLn w1 base v xs) (hm : xs.length = m)
    (ho : w2.ownsRow base 24 5 (.slice (some ⟨g, 0, none⟩) (m + 2) cap2) (m + 2) (h.cells ++ mk7s)) (hg : (w1.alloc o).grownBy w2 v.ownBlock) :
    m + 2 ≤ cap2 ∧ LnR w2 base w2.heap.size xs (some ⟨g, 0, none⟩) 0 ∧ Mk7 w2 base w2.heap.size (some ⟨g, 0, none⟩) m := by
  subst hm
  unfold KRow.cells at ho
  obtain ⟨h1, h2, h3⟩ := Classical.choose_spec h
  generalize Classical.choose h = bs at *
  have hsz : (w1.alloc o).heap.size = w1.heap.size + 1 := World.size_alloc _ _
  have hgs := hg.size
  have hold : ∀ k, k < w1.heap.size → v.ownBlock ≠ some k → w2.heap[k]? = w1.heap[k]? := fun k hk hne => (hg.block k (by omega) (fun e => hne e.symm)).trans (Below.heap_alloc _ _ _ hk)
  rcases ho.2 with ⟨hv, h0⟩ | ⟨g', cap, cur, hv, hgb, hc, hn, hrest⟩
  · cases hv
  have e1 : g' = g := by
    simp only [Value.slice.injEq, Option.some.injEq, Addr.mk.injEq] at hv
    exact hv.1.1.symm
  have e2 : cap = cap2 := by
    simp only [Value.slice.injEq] at hv
    exact hv.2.2.symm
  subst e1 e2
  have hlt := (Array.getElem?_eq_some_iff.1 hc).1
  have hkl := kidCells_len xs bs h1
  have hleft : ∀ j i, (hj : j < xs.length) → i < 5 → w2.cell? ⟨g', j * 5 + i, none⟩ = (ndCells xs[j].kind xs[j].text (bs[j]'(by omega)).1 xs[j].kids.length (bs[j]'(by omega)).2 xs[j].from' xs[j].till)[i]? := fun j i hj hi => by
    rw [ho.cellAt (j * 5 + i) (by omega), List.getElem?_append_left (by omega)]
    exact kidCells_get xs bs h1 j i hj hi
  have hright : ∀ i, i < 10 → w2.cell? ⟨g', xs.length * 5 + i, none⟩ = mk7s[i]? := fun i hi => by
    rw [ho.cellAt (xs.length * 5 + i) (by omega), List.getElem?_append_right (by omega), hkl]
    congr 1
    omega
  refine ⟨hn, LnR_of fun j hj => ⟨g', 0, rfl, ?_⟩, g', 0, rfl, ?_, ?_⟩
  · rw [Nat.zero_add, Nat.zero_add, LnC_eq]
    have hbj : j < bs.length := by omega
    obtain ⟨L', B', c1, c2, c3, c4⟩ := h3 j hj hbj
    have c5 : RowLn w2 base w2.heap.size xs[j] bs[j].1 bs[j].2 := RowLn.keeps.k c1 (by omega) (fun k k1 k2 => hold k (by omega) (fun e => by rcases c3 k e with h | h <;> omega)) c4
    exact ⟨_, _, hgb, hlt, hleft j 0 hj (by decide), hleft j 1 hj (by decide), hleft j 2 hj (by decide), hleft j 3 hj (by decide), hleft j 4 hj (by decide), c5⟩
  · rw [Nat.zero_add, NdC_eq]
    exact ⟨none, 0, hgb, hlt, hright 0 (by decide), hright 1 (by decide), hright 2 (by decide), hright 3 (by decide), hright 4 (by decide), Nat.le_refl _, by show RowP _ _ _ [] _ _; rw [RowP]; trivial⟩
  · rw [Nat.zero_add, NdC_eq, show (xs.length + 1) * 5 = xs.length * 5 + 5 by omega]
    exact ⟨none, 0, hgb, hlt, hright 5 (by decide), hright 6 (by decide), hright 7 (by decide), hright 8 (by decide), hright 9 (by decide), Nat.le_refl _, by show RowP _ _ _ [] _ _; rw [RowP]; trivial⟩
/-- lending under way: the node's box, the result's, the answer's; k kids are lent. -/
structure LeS (w0 : World) (p q r L B : Nat) (n : Nd) (b : Option Addr) (cap : Nat) (vk : Value) (xs : List Nd) (wr : World) : Prop where
  st : NSt w0 p L B n b cap wr
  res : NdBoxV wr q 0 ⟨#[]⟩ (.slice none 0 0) 0 0
  out : NdBoxV wr r n.kind n.text (.slice b n.kids.length cap) n.from' n.till
  kr : KRow RowLn wr (r + 1) vk xs
  pq : p < q
  qr : q < r
  hr : r < wr.heap.size
theorem LeS.bel' {w0 wr w' : World} {p q r L B : Nat} {n : Nd} {b : Option Addr} {cap : Nat} {vk : Value} {xs : List Nd} (h : LeS w0 p q r L B n b cap vk xs wr) (hb : Below wr.heap.size wr w') : LeS w0 p q r L B n b cap vk xs w' :=
  ⟨h.st.bel' hb, h.res.bel hb, h.out.bel hb, h.kr.bel RowLn.keeps hb, h.pq, h.qr, Nat.lt_of_lt_of_le h.hr hb.size⟩
theorem push_far' {w2 w3 : World} {o : Obj} {v : Value} {r n i : Nat} {ys : List Value} (hg : (w2.alloc o).grownBy w3 v.ownBlock) (ho : w2.ownsRow (r + 1) 24 5 v n ys) (hr : r < w2.heap.size) (hi : i ≤ r) : w3.heap[i]? = w2.heap[i]? := by
  refine (hg.block i (by rw [World.size_alloc]; omega) (fun e => ?_)).trans (Below.heap_alloc _ _ _ (by omega))
  have := (ho.lt i e.symm).1
  omega
/-- what a round uses of the call. -/
theorem lend_use {f : Nat} {w0 wr W : World} {p q r L B m : Nat} {n x : Nd} {b : Option Addr} {cap : Nat} {vk : Value} {xs : List Nd} {args : Array Value} (h : LeS w0 p q r L B n b cap vk xs wr) (hm : xs.length = m) (hW : Below wr.heap.size wr W)
    (hc : Calls Tryz.prog f args W fun e w' => ∃ u, e = .returned u ∧ LnV w' W.heap.size w'.heap.size x u ∧ Below W.heap.size W w') :
    Calls Tryz.prog f args W fun e w' => ∃ bu cu, e = .returned (.agg #[.int .i64 x.kind, .string x.text, .slice bu x.kids.length cu, .int .i64 x.from', .int .i64 x.till]) ∧ RowLn w' wr.heap.size w'.heap.size x bu cu ∧ Below wr.heap.size wr w' ∧
      KRow RowLn w' (r + 1) vk xs ∧ xs.length = m ∧ r < w'.heap.size := by
  refine hc.mono fun e w' => ?_
  rintro ⟨u, rfl, ⟨bu, cu, rfl, hru⟩, hb⟩
  have hb2 := hW.trans (hb.mono hW.size)
  exact ⟨bu, cu, rfl, RowLn.keeps.k hW.size (Nat.le_refl _) (fun _ _ _ => rfl) hru, hb2, h.kr.bel RowLn.keeps hb2, hm, Nat.lt_of_lt_of_le h.hr hb2.size⟩
/-- a round. -/
theorem LeS.step {w0 wr w2 w3 : World} {p q r L B m : Nat} {n x : Nd} {b bu : Option Addr} {cap cu : Nat} {vk : Value} {xs : List Nd} {g cap1 : Nat} {o : Obj} (h : LeS w0 p q r L B n b cap vk xs wr)
    (hb2 : Below wr.heap.size wr w2) (hru : RowLn w2 wr.heap.size w2.heap.size x bu cu) (hkr2 : KRow RowLn w2 (r + 1) vk xs) (hlen : xs.length = m)
    (ho : w3.ownsRow (r + 1) 24 5 (.slice (some ⟨g, 0, none⟩) (m + 1) cap1) (m + 1) (hkr2.cells ++ (ndCells x.kind x.text bu x.kids.length cu x.from' x.till).toList))
    (hg : (w2.alloc o).grownBy w3 vk.ownBlock) (hat : vk.ownBlock = some g ∨ g = w2.heap.size + 1) (hr : r < w2.heap.size) :
    LeS w0 p q r L B n b cap (.slice (some ⟨g, 0, none⟩) (m + 1) cap1) (xs ++ [x]) w3 := by
  have hown := hkr2.own hlen
  have hpq := h.pq
  have hqr := h.qr
  have hwr := h.hr
  have hst := h.st.hp
  have hlow : Below (r + 1) wr w3 := by
    have h3 : Below (r + 1) w2 w3 := by
      refine ((Below.refl (r + 1) w2).alloc (by omega) o).grown hg (by rw [World.size_alloc]; omega) (fun i e => ?_)
      have := (hown.lt i e).1
      omega
    exact (hb2.mono (by omega)).trans h3
  have hz3 := hg.size
  rw [World.size_alloc] at hz3
  exact ⟨h.st.low (hlow.mono (by omega)) hpq |>.low (Below.refl _ _) (by omega), (hlow.block q (by omega)).trans h.res, (hlow.block r (by omega)).trans h.out,
    KRow.push RowLn.keeps hkr2 hlen (by omega) (fun i e => ((h.kr.own hlen).lt i e).2) (Nat.le_refl _) hru ho hg hat, hpq, hqr, by omega⟩
theorem ten_one : ∀ y ∈ mk7s, y.oneCell' = true := by
  intro y hy
  simp only [mk7s, List.mem_cons, List.not_mem_nil, or_false] at hy
  rcases hy with rfl | rfl | rfl | rfl | rfl | rfl | rfl | rfl | rfl | rfl <;> rfl
/-- all kids are lent: the result. -/
theorem LeS.done {w0 wr w3 : World} {p q r L B m : Nat} {n : Nd} {b : Option Addr} {cap : Nat} {vk : Value} {g cap1 : Nat} {o : Obj} (h : LeS w0 p q r L B n b cap vk n.kids wr) (hlen : n.kids.length = m)
    (ho : w3.ownsRow (r + 1) 24 5 (.slice (some ⟨g, 0, none⟩) (m + 2) cap1) (m + 2) (h.kr.cells ++ mk7s)) (hg : (wr.alloc o).grownBy w3 vk.ownBlock) :
    NdBoxV (w3.setCell ⟨r, 2, none⟩ (.slice (some ⟨g, 0, none⟩) m cap1)) r n.kind n.text (.slice (some ⟨g, 0, none⟩) m cap1) n.from' n.till ∧ NdBoxV (w3.setCell ⟨r, 2, none⟩ (.slice (some ⟨g, 0, none⟩) m cap1)) q 0 ⟨#[]⟩ (.slice none 0 0) 0 0 ∧ q < (w3.setCell ⟨r, 2, none⟩ (.slice (some ⟨g, 0, none⟩) m cap1)).heap.size ∧
      NdBoxV (lay5 (w3.setCell ⟨r, 2, none⟩ (.slice (some ⟨g, 0, none⟩) m cap1)) q n.kind n.text (.slice (some ⟨g, 0, none⟩) m cap1) n.from' n.till) q n.kind n.text (.slice (some ⟨g, 0, none⟩) m cap1) n.from' n.till ∧
      Below w0.heap.size w0 (lay5 (w3.setCell ⟨r, 2, none⟩ (.slice (some ⟨g, 0, none⟩) m cap1)) q n.kind n.text (.slice (some ⟨g, 0, none⟩) m cap1) n.from' n.till) ∧
      LnV (lay5 (w3.setCell ⟨r, 2, none⟩ (.slice (some ⟨g, 0, none⟩) m cap1)) q n.kind n.text (.slice (some ⟨g, 0, none⟩) m cap1) n.from' n.till) w0.heap.size (lay5 (w3.setCell ⟨r, 2, none⟩ (.slice (some ⟨g, 0, none⟩) m cap1)) q n.kind n.text (.slice (some ⟨g, 0, none⟩) m cap1) n.from' n.till).heap.size n (.agg #[.int .i64 n.kind, .string n.text, .slice (some ⟨g, 0, none⟩) m cap1, .int .i64 n.from', .int .i64 n.till]) := by
  have hown := h.kr.own hlen
  have hpq := h.pq
  have hqr := h.qr
  have hwr := h.hr
  have hst := h.st.hp
  have hz3 := hg.size
  rw [World.size_alloc] at hz3
  have h3 : Below (r + 1) wr w3 := by
    refine ((Below.refl (r + 1) wr).alloc (by omega) o).grown hg (by rw [World.size_alloc]; omega) (fun i e => ?_)
    have := (hown.lt i e).1
    omega
  have hlow : Below r wr (w3.setCell ⟨r, 2, none⟩ (.slice (some ⟨g, 0, none⟩) m cap1)) := (show Below r wr w3 from h3.mono (by omega)).setCell (p := ⟨r, 2, none⟩) (Nat.le_refl _) _
  obtain ⟨m1, m2, m3⟩ := h.kr.mark hlen ho hg
  have hq4 : NdBoxV (w3.setCell ⟨r, 2, none⟩ (.slice (some ⟨g, 0, none⟩) m cap1)) q 0 ⟨#[]⟩ (.slice none 0 0) 0 0 := (hlow.block q (by omega)).trans h.res
  have hr3 : w3.heap[r]? = some (.cells #[.int .i64 n.kind, .string n.text, .slice b n.kids.length cap, .int .i64 n.from', .int .i64 n.till] 24 (0, 0)) := (h3.block r (by omega)).trans h.out
  refine ⟨heap_setCell_same w3 r 2 _ 24 (.slice (some ⟨g, 0, none⟩) m cap1) hr3, hq4, hq4.lt, hq4.lay, lay5_bel (h.st.bel.trans (hlow.mono (by omega))) (by omega) _ _ _ _ _, some ⟨g, 0, none⟩, cap1, by rw [hlen], ?_⟩
  rw [lay5_size]
  have hsz : (w3.setCell ⟨r, 2, none⟩ (.slice (some ⟨g, 0, none⟩) m cap1)).heap.size = w3.heap.size := by simp [World.setCell]
  rw [hsz]
  subst hlen
  refine RowLn.keeps.k (w := w3) (L := r + 1) (B := w3.heap.size) (by omega) (Nat.le_refl _) (fun i h4 _ => ?_) ⟨m1, m2, m3⟩
  rw [lay5_block _ _ _ _ _ _ _ _ (by omega)]
  exact Below.heap_setCell _ _ _ _ (by show i ≠ r; omega)
set_option maxRecDepth 20000 in
set_option maxHeartbeats 2000000 in
theorem lend_any (n : Nd) : ∀ (v : Value) (w : World) (L B : Nat), NdV w L B n v → B ≤ w.heap.size → ndSize n ≤ 4194304 →
    Calls Tryz.prog 8 #[v] w fun e w' => ∃ u, e = .returned u ∧ LnV w' w.heap.size w'.heap.size n u ∧ Below w.heap.size w w' := by
  induction n using Nd.ind with
  | h n ih =>
    intro v w L B hv hB hsz
    obtain ⟨b, cap, rfl, hcap, hrow⟩ := hv
    unfold ndCells
    have hkc := kid_count n
    have HIH := Lib.hid (fun (W : World) (j : Nat) (hj : j < n.kids.length) (v : Value) (hu : NdV W L B n.kids[j] v) (hW : B ≤ W.heap.size) => ih _ (List.getElem_mem hj) v W L B hu hW (by have := kid_size hj; omega))
    have HST := Lib.hid (NSt.new (cap := cap) hrow hB)
    clear hrow ih
    go_enter Tryz.func8, Tryz.ntmps8
    go_upto_region 2 with fail
    have hR : NdBoxV (((w.alloc (.cells #[.int .i64 n.kind, .string n.text, .slice b n.kids.length cap, .int .i64 n.from', .int .i64 n.till] 24)).alloc (.cells #[.int .i64 0, .string ⟨#[]⟩, .slice none 0 0, .int .i64 0, .int .i64 0] 24)).alloc (.cells #[.int .i64 n.kind, .string n.text, .slice b n.kids.length cap, .int .i64 n.from', .int .i64 n.till] 24)) (w.heap.size + 1 + 1) n.kind n.text (.slice b n.kids.length cap) n.from' n.till := by
      have := heap_alloc_new ((w.alloc (.cells #[.int .i64 n.kind, .string n.text, .slice b n.kids.length cap, .int .i64 n.from', .int .i64 n.till] 24)).alloc (.cells #[.int .i64 0, .string ⟨#[]⟩, .slice none 0 0, .int .i64 0, .int .i64 0] 24)) (.cells #[.int .i64 n.kind, .string n.text, .slice b n.kids.length cap, .int .i64 n.from', .int .i64 n.till] 24)
      rw [World.size_alloc, World.size_alloc] at this
      exact this
    have hQ : NdBoxV (((w.alloc (.cells #[.int .i64 n.kind, .string n.text, .slice b n.kids.length cap, .int .i64 n.from', .int .i64 n.till] 24)).alloc (.cells #[.int .i64 0, .string ⟨#[]⟩, .slice none 0 0, .int .i64 0, .int .i64 0] 24)).alloc (.cells #[.int .i64 n.kind, .string n.text, .slice b n.kids.length cap, .int .i64 n.from', .int .i64 n.till] 24)) (w.heap.size + 1) 0 ⟨#[]⟩ (.slice none 0 0) 0 0 := by
      have := heap_alloc_new (w.alloc (.cells #[.int .i64 n.kind, .string n.text, .slice b n.kids.length cap, .int .i64 n.from', .int .i64 n.till] 24)) (.cells #[.int .i64 0, .string ⟨#[]⟩, .slice none 0 0, .int .i64 0, .int .i64 0] 24)
      rw [World.size_alloc] at this
      exact (Below.heap_alloc _ _ _ (by rw [World.size_alloc, World.size_alloc]; omega)).trans this
    have hS : NSt w w.heap.size L B n b cap (((w.alloc (.cells #[.int .i64 n.kind, .string n.text, .slice b n.kids.length cap, .int .i64 n.from', .int .i64 n.till] 24)).alloc (.cells #[.int .i64 0, .string ⟨#[]⟩, .slice none 0 0, .int .i64 0, .int .i64 0] 24)).alloc (.cells #[.int .i64 n.kind, .string n.text, .slice b n.kids.length cap, .int .i64 n.from', .int .i64 n.till] 24)) :=
      (HST.out.bel' (Below.alloc (Below.refl _ _) (Nat.le_refl _) _)).bel' (Below.alloc (Below.refl _ _) (Nat.le_refl _) _)
    have hCP : LeS w w.heap.size (w.heap.size + 1) (w.heap.size + 1 + 1) L B n b cap (.slice none 0 0) (n.kids.take 0) (((w.alloc (.cells #[.int .i64 n.kind, .string n.text, .slice b n.kids.length cap, .int .i64 n.from', .int .i64 n.till] 24)).alloc (.cells #[.int .i64 0, .string ⟨#[]⟩, .slice none 0 0, .int .i64 0, .int .i64 0] 24)).alloc (.cells #[.int .i64 n.kind, .string n.text, .slice b n.kids.length cap, .int .i64 n.from', .int .i64 n.till] 24)) :=
      ⟨hS, hQ, hR, KRow.nil _ _ _, by omega, by omega, by rw [World.size_alloc, World.size_alloc, World.size_alloc]; omega⟩
    generalize World.alloc (World.alloc (World.alloc w _) _) _ = w1 at *
    generalize hp : w.heap.size = p at hCP
    generalize hq : p + 1 = q at *
    generalize hr : q + 1 = r at *
    have HP := Lib.hid hp
    have HQ := Lib.hid hq
    have HR := Lib.hid hr
    have HCP := Lib.hid hCP
    clear hp hq hr hS hQ hR hCP HST
    obtain ⟨i0, hi, hz0, hz1, hz2⟩ := info_parts infoNd
    go_wp2_with fail
    go_loopw [4, 5] (fun v4 i wr => ∃ (k : Nat) (vk : Value), k ≤ n.kids.length ∧ vk = v4 ∧ i = .int .i64 k ∧ LeS w p q r L B n b cap vk (n.kids.take k) wr) (fun _ i _ => n.kids.length - (intOf i).toNat)
    case atStart => exact ⟨0, _, Nat.zero_le _, rfl, rfl, HCP.out⟩
    case round =>
      clear HCP
      obtain ⟨k, vk, hkl, rfl, rfl, hcp⟩ := hrel
      have HCP := Lib.hid hcp
      obtain ⟨d0, d1, d2, d3, d4, g0, g1, g2, g3, g4⟩ := NdBox.facts hcp.st.box
      by_cases hlt : k < n.kids.length
      · obtain ⟨g, off, b', cap', rfl, hgB, c0, c1, c2, c3, c4, hkv⟩ := RowP_cells hcp.st.row k hlt
        have hBw := Nat.le_trans hcp.st.hB hcp.st.bel.size
        have hkl2 : (n.kids.take k).length = k := by rw [List.length_take]; omega
        have HCALL := Lib.hid (fun (W : World) (hW : Below wr.heap.size wr W) => lend_use hcp hkl2 hW (HIH.out W k hlt _ (NdV_bel hkv (hW.mono hBw)) (Nat.le_trans hBw hW.size)))
        have HTK := Lib.hid (List.take_succ_eq_append_getElem hlt)
        have hrl := hcp.hr
        have hpl := hcp.st.box.lt
        have hqr := hcp.qr
        have hwr := Nat.le_trans hcp.st.hp (Nat.le_of_lt (Nat.lt_trans hcp.pq hcp.qr))
        generalize hys : n.kids.take k = ys at *
        generalize hkid : n.kids[k] = x at *
        have HKL := Lib.hid hkl2
        clear hcp hkid hkv hkl2 hys
        go_upto_region 6 with fail
        go_wp2_with (first | (go_at_call 8; (with_reducible refine (HCALL.out _ (Below.refl _ _)).mono ?_); rintro e w2 ⟨bu, cu, rfl, hru, hb2, hkr2, hln2, hs2⟩; have HLN := Lib.hid hln2; clear hln2) | (at_builtin; refine wpList_append_lies _ (by rfl) _ _ _ (by rfl) (r + 1) 24 i0 _ 5 64 (by kernel_rfl) hi hz0 hz1 hz2 (by rfl) (by decide) vk k hkr2.cells (by rfl) ((hkr2.own HLN.out).alloc _) ⟨w2.heap.size, 0, none⟩ 1 1 [.int .i64 x.kind, .string x.text, .slice bu x.kids.length cu, .int .i64 x.from', .int .i64 x.till] (by rfl) (by rfl) (World.news_of_block (heap_alloc_new _ _)) five_one (by decide) (by unfold maxLen; omega) (by omega) (by rw [World.size_alloc]; omega) (w2.heap.size + 1) (by simp) ?_; intro g1 cap1 w3 hown3 hgrow3 hat3 hlt3))
        all_goals
          have hst3 := LeS.step HCP.out hb2 hru hkr2 HKL.out hown3 hgrow3 hat3 hs2
          have HST3 := Lib.hid hst3
          clear hst3 hown3 hgrow3 hat3 hkr2 hru hb2
          go_roundw
          case rel => exact ⟨k + 1, _, hlt, rfl, by go_num, by rw [HTK.out]; exact HST3.out⟩
          case measure => simp [intOf]; omega
      · obtain rfl : k = n.kids.length := by omega
        rw [List.take_length] at hcp
        have HCX := Lib.hid hcp
        clear HCP
        obtain ⟨x0, x1, x2, x3, x4, y0, y1, y2, y3, y4⟩ := NdBoxV.facts hcp.out
        have hrl := hcp.hr
        have hpl := hcp.st.box.lt
        have hpr : p ≤ r := by have := hcp.pq; have := hcp.qr; omega
        have hrw0 : r < wr.heap.size := hcp.hr
        clear hcp
        go_upto_region 7 with fail
        go_region_law (refine step_append_lies _ (by rfl) _ _ _ (by rfl) (r + 1) 24 i0 _ 5 64 (by kernel_rfl) hi hz0 hz1 hz2 (by rfl) (by decide) vk n.kids.length HCX.out.kr.cells (by rfl) ((HCX.out.kr.own rfl).alloc _) ⟨wr.heap.size, 0, none⟩ 2 2 [.int .i64 (-7), .string ⟨#[]⟩, .slice none 0 0, .int .i64 0, .int .i64 0, .int .i64 (-7), .string ⟨#[]⟩, .slice none 0 0, .int .i64 0, .int .i64 0] (by rfl) (by rfl) (World.news_of_block (heap_alloc_new _ _)) ten_one (by decide) (by unfold maxLen; omega) (by omega) (by simp <;> omega) (wr.heap.size + 1) (by simp) ?_; intro g1 cap1 w3 hown3 hgrow4 hat3 hlt3; have hgrow3 : (wr.alloc _).grownBy w3 vk.ownBlock := ⟨hgrow4.os, hgrow4.tape, hgrow4.output, hgrow4.size, hgrow4.block⟩; clear hgrow4; have b3 := push_far' hgrow3 (HCX.out.kr.own rfl) hrl (Nat.le_refl _); have f3 := (World.frozen?_of_block (a := ⟨r, 2, none⟩) b3).trans y2; have bp3 := push_far' hgrow3 (HCX.out.kr.own rfl) hrl hpr; have e3 := (World.cell?_of_block (a := ⟨p, 2, none⟩) bp3).trans d2; have er3 := (World.cell?_of_block (a := ⟨r, 2, none⟩) b3).trans x2; have hmc := (HCX.out.kr.mark rfl hown3 hgrow3).1; have hmc2 : n.kids.length ≤ cap1 := (by omega); have hrw : r < w3.heap.size := (Array.getElem?_eq_some_iff.1 (b3.trans HCX.out.out)).1)
        all_goals
          have HD := Lib.hid (HCX.out.done rfl hown3 hgrow3)
          obtain ⟨z0, z1, z2, z3, z4, v0, v1, v2, v3, v4⟩ := NdBoxV.facts HD.out.1
          obtain ⟨s0, s1, s2, s3, s4, t0, t1, t2, t3, t4⟩ := NdBoxV.facts HD.out.2.1
          have hqz := HD.out.2.2.1
          clear hown3 hgrow3 hat3
          go_wp2_with fail
          refine bodyPost_ret (results_nd rfl _ _ q rfl HD.out.2.2.2.1) rfl ?_
          exact ⟨_, rfl, HD.out.2.2.2.2.2, HD.out.2.2.2.2.1⟩
end Go.Proofs.YteejjkfmmhegmaaGreatDoor
namespace Go.Proofs.YteejjkfmmhegmaaGreatDoor
open Go.RowKit

theorem LnR_cells {w : World} {L B : Nat} {a : Option Addr} {ks : List Nd} (h : LnR w L B ks a 0) (j : Nat) (hj : j < ks.length) :
    ∃ g off b cap, a = some ⟨g, off, none⟩ ∧ g < B ∧ w.cell? ⟨g, off + j * 5, none⟩ = some (.int .i64 ks[j].kind) ∧ w.cell? ⟨g, off + j * 5 + 1, none⟩ = some (.string ks[j].text) ∧
      w.cell? ⟨g, off + j * 5 + 2, none⟩ = some (.slice b ks[j].kids.length cap) ∧ w.cell? ⟨g, off + j * 5 + 3, none⟩ = some (.int .i64 ks[j].from') ∧ w.cell? ⟨g, off + j * 5 + 4, none⟩ = some (.int .i64 ks[j].till) ∧
      LnV w L B ks[j] (.agg #[.int .i64 ks[j].kind, .string ks[j].text, .slice b ks[j].kids.length cap, .int .i64 ks[j].from', .int .i64 ks[j].till]) := by
  obtain ⟨g, off, ha, hn⟩ := LnR_get h j hj
  rw [Nat.zero_add, LnC_eq] at hn
  obtain ⟨b, cap, _, h3, c0, c1, c2, c3, c4, hc⟩ := hn
  exact ⟨g, off, b, cap, ha, h3, c0, c1, c2, c3, c4, b, cap, rfl, hc⟩
/-- the mark, as a value. -/
theorem mk7_v (w : World) (L B : Nat) (b : Option Addr) (c : Nat) : NdV w L B mk7 (.agg #[.int .i64 (-7), .string ⟨#[]⟩, .slice b 0 c, .int .i64 0, .int .i64 0]) :=
  ⟨b, c, rfl, Nat.zero_le _, by show RowP _ _ _ [] _ _; rw [RowP]; trivial⟩
/-- a function under way that has boxed a lent node, and leaves all old blocks alone. -/
structure RoS (w0 : World) (p L B : Nat) (n : Nd) (b : Option Addr) (cap : Nat) (wr : World) : Prop where
  box : NdBox wr p n.kind n.text b n.kids.length cap n.from' n.till
  row : LnR wr L B n.kids b 0
  mark : Mk7 wr L B b n.kids.length
  bel : Below w0.heap.size w0 wr
  hp : w0.heap.size ≤ p
  hB : B ≤ w0.heap.size
theorem RoS.bel' {w0 wr w' : World} {p L B : Nat} {n : Nd} {b : Option Addr} {cap : Nat} (h : RoS w0 p L B n b cap wr) (hb : Below wr.heap.size wr w') : RoS w0 p L B n b cap w' :=
  ⟨h.box.bel hb h.box.lt, LnR_keep (Nat.le_refl _) (Nat.le_refl _) (fun k _ hk => hb.block k (Nat.lt_of_lt_of_le hk (Nat.le_trans h.hB h.bel.size))) h.row,
    h.mark.keep (Nat.le_refl _) (Nat.le_refl _) (fun k _ hk => hb.block k (Nat.lt_of_lt_of_le hk (Nat.le_trans h.hB h.bel.size))), bel_next h.bel hb, h.hp, h.hB⟩
theorem Mk7.cells {w : World} {L B : Nat} {b : Option Addr} {m : Nat} (h : Mk7 w L B b m) : ∃ g off b1 c1 b2 c2, b = some ⟨g, off, none⟩ ∧ g < B ∧
    w.cell? ⟨g, off + m * 5, none⟩ = some (.int .i64 (-7)) ∧ w.cell? ⟨g, off + m * 5 + 1, none⟩ = some (.string ⟨#[]⟩) ∧ w.cell? ⟨g, off + m * 5 + 2, none⟩ = some (.slice b1 0 c1) ∧ w.cell? ⟨g, off + m * 5 + 3, none⟩ = some (.int .i64 0) ∧ w.cell? ⟨g, off + m * 5 + 4, none⟩ = some (.int .i64 0) ∧
    w.cell? ⟨g, off + (m + 1) * 5, none⟩ = some (.int .i64 (-7)) ∧ w.cell? ⟨g, off + (m + 1) * 5 + 1, none⟩ = some (.string ⟨#[]⟩) ∧ w.cell? ⟨g, off + (m + 1) * 5 + 2, none⟩ = some (.slice b2 0 c2) ∧ w.cell? ⟨g, off + (m + 1) * 5 + 3, none⟩ = some (.int .i64 0) ∧ w.cell? ⟨g, off + (m + 1) * 5 + 4, none⟩ = some (.int .i64 0) := by
  obtain ⟨g, off, e, h1, h2⟩ := h
  rw [NdC_eq] at h1 h2
  obtain ⟨b1, c1, _, hg, x0, x1, x2, x3, x4, _⟩ := h1
  obtain ⟨b2, c2, _, _, y0, y1, y2, y3, y4, _⟩ := h2
  exact ⟨g, off, b1, c1, b2, c2, e, hg, x0, x1, x2, x3, x4, y0, y1, y2, y3, y4⟩
set_option maxRecDepth 20000 in
set_option maxHeartbeats 2000000 in
theorem room_any (n : Nd) : ∀ (v : Value) (w : World) (L B : Nat), LnV w L B n v → B ≤ w.heap.size → ndSize n ≤ 4194304 →
    Calls Tryz.prog 24 #[v] w fun e w' => e = .returned (.bool true) ∧ Below w.heap.size w w' := by
  induction n using Nd.ind with
  | h n ih =>
    intro v w L B hv hB hsz
    obtain ⟨b, cap, rfl, hcap, hrow, hmk⟩ := hv
    have hkc := kid_count n
    have HIH := Lib.hid (fun (W : World) (j : Nat) (hj : j < n.kids.length) (u : Value) (hu : LnV W L B n.kids[j] u) (hW : B ≤ W.heap.size) => ih _ (List.getElem_mem hj) u W L B hu hW (by have := kid_size hj; omega))
    have hba : Below w.heap.size w (w.alloc (.cells #[.int .i64 n.kind, .string n.text, .slice b n.kids.length cap, .int .i64 n.from', .int .i64 n.till] 24)) := Below.alloc (Below.refl _ w) (Nat.le_refl _) _
    have HST := Lib.hid (show RoS w w.heap.size L B n b cap (w.alloc (.cells #[.int .i64 n.kind, .string n.text, .slice b n.kids.length cap, .int .i64 n.from', .int .i64 n.till] 24)) from
      ⟨heap_alloc_new _ _, LnR_keep (Nat.le_refl _) (Nat.le_refl _) (fun k _ hk => hba.block k (by omega)) hrow, hmk.keep (Nat.le_refl _) (Nat.le_refl _) (fun k _ hk => hba.block k (by omega)), hba, Nat.le_refl _, hB⟩)
    clear hrow hmk ih hba
    go_enter Tryz.func24, Tryz.ntmps24
    go_upto_region 1 with fail
    generalize World.alloc w _ = w1 at *
    generalize hp : w.heap.size = p at HST
    have HP := Lib.hid hp
    clear hp
    obtain ⟨d0, d1, d2, d3, d4, g0, g1, g2, g3, g4⟩ := NdBox.facts HST.out.box
    obtain ⟨g, off, b1, c1, b2, c2, rfl, hgB, x0, x1, x2, x3, x4, y0, y1, y2, y3, y4⟩ := HST.out.mark.cells
    have hgw : g < w1.heap.size := Nat.lt_of_lt_of_le hgB (Nat.le_trans hB HST.out.bel.size)
    go_wp2_with fail
    have HS7 := Lib.hid (show ndSize mk7 ≤ 4194304 by rw [ndSize_eq]; show 1 + ndSizes [] ≤ _; rw [ndSizes]; omega)
    refine (samenode_any mk7 _ _ w1 L B (mk7_v _ _ _ _ _) (mk7_v _ _ _ _ _) (Nat.le_trans hB HST.out.bel.size) HS7.out).mono ?_
    rintro e w2 ⟨rfl, hb2⟩
    have HST2 := Lib.hid (HST.out.bel' hb2)
    clear d0 d1 d2 d3 d4 g0 g1 g2 g3 g4 x0 x1 x2 x3 x4 y0 y1 y2 y3 y4 hgw hb2 HST
    obtain ⟨d0, d1, d2, d3, d4, g0, g1, g2, g3, g4⟩ := NdBox.facts HST2.out.box
    obtain ⟨g', off', b3, c3, b4, c4, hgo, hgB', x0, x1, x2, x3, x4, y0, y1, y2, y3, y4⟩ := HST2.out.mark.cells
    obtain ⟨rfl, rfl⟩ : g = g' ∧ off = off' := by simpa using hgo
    have hgw : g < w2.heap.size := Nat.lt_of_lt_of_le hgB (Nat.le_trans hB HST2.out.bel.size)
    clear hgo
    go_wp2_with fail
    refine (samenode_any mk7 _ _ w2 L B (mk7_v _ _ _ _ _) (mk7_v _ _ _ _ _) (Nat.le_trans hB HST2.out.bel.size) HS7.out).mono ?_
    rintro e w3 ⟨rfl, hb3⟩
    have HST3 := Lib.hid (HST2.out.bel' hb3)
    clear d0 d1 d2 d3 d4 g0 g1 g2 g3 g4 x0 x1 x2 x3 x4 y0 y1 y2 y3 y4 hgw hb3 HST2
    go_wp2_with fail
    go_loopw [4] (fun i wr => ∃ k : Nat, k ≤ n.kids.length ∧ i = .int .i64 k ∧ RoS w p L B n (some ⟨g, off, none⟩) cap wr) (fun i _ => n.kids.length - (intOf i).toNat)
    case atStart => exact ⟨0, Nat.zero_le _, rfl, HST3.out⟩
    case round =>
      clear HST3
      obtain ⟨k, hk, rfl, hst⟩ := hrel
      have HST := Lib.hid hst
      obtain ⟨d0, d1, d2, d3, d4, g0, g1, g2, g3, g4⟩ := NdBox.facts hst.box
      by_cases hlt : k < n.kids.length
      · obtain ⟨g', off', b', cap', hgo, hgB2, c0, c1, c2, c3, c4, hkv⟩ := LnR_cells hst.row k hlt
        obtain ⟨rfl, rfl⟩ : g = g' ∧ off = off' := by simpa using hgo
        have hcall := HIH.out wr k hlt _ hkv (Nat.le_trans hst.hB hst.bel.size)
        generalize hkid : n.kids[k] = x at *
        have HCALL := Lib.hid hcall
        clear hst hkid hkv hcall hgo
        go_wp2_with (go_at_call 24; refine HCALL.out.mono ?_; rintro e w2 ⟨rfl, hb2⟩)
        go_roundw
        case rel => exact ⟨k + 1, hlt, by go_num, HST.out.bel' hb2⟩
        case measure => simp [intOf]; omega
      · obtain rfl : k = n.kids.length := by omega
        go_wp2_with fail
        go_ret
        exact ⟨rfl, HST.out.bel⟩
/-- kept as it was lent. -/
theorem kept_any (n : Nd) (v u : Value) (w : World) (L B : Nat) (hv : LnV w L B n v) (hu : NdV w L B n u) (hB : B ≤ w.heap.size) (hsz : ndSize n ≤ 4194304) :
    Calls Tryz.prog 12 #[v, u] w fun e w' => e = .returned (.bool true) ∧ Below w.heap.size w w' := by
  have HV := Lib.hid hv
  have HU := Lib.hid hu
  obtain ⟨b, cap, rfl, _⟩ := hv
  obtain ⟨b2, cap2, rfl, _⟩ := hu
  unfold ndCells at *
  go_enter Tryz.func12, Tryz.ntmps12
  go_upto_region 1 with fail
  have hba : Below w.heap.size w ((w.alloc (.cells #[.int .i64 n.kind, .string n.text, .slice b n.kids.length cap, .int .i64 n.from', .int .i64 n.till] 24)).alloc (.cells #[.int .i64 n.kind, .string n.text, .slice b2 n.kids.length cap2, .int .i64 n.from', .int .i64 n.till] 24)) := (Below.alloc (Below.refl _ w) (Nat.le_refl _) _).alloc (by simp) _
  have hbx : NdBox ((w.alloc (.cells #[.int .i64 n.kind, .string n.text, .slice b n.kids.length cap, .int .i64 n.from', .int .i64 n.till] 24)).alloc (.cells #[.int .i64 n.kind, .string n.text, .slice b2 n.kids.length cap2, .int .i64 n.from', .int .i64 n.till] 24)) w.heap.size n.kind n.text b n.kids.length cap n.from' n.till := (Below.heap_alloc _ _ _ (by simp)).trans (heap_alloc_new _ _)
  have hb2x := heap_alloc_new (w.alloc (.cells #[.int .i64 n.kind, .string n.text, .slice b n.kids.length cap, .int .i64 n.from', .int .i64 n.till] 24)) (.cells #[.int .i64 n.kind, .string n.text, .slice b2 n.kids.length cap2, .int .i64 n.from', .int .i64 n.till] 24)
  rw [World.size_alloc] at hb2x
  have hbz : NdBox ((w.alloc (.cells #[.int .i64 n.kind, .string n.text, .slice b n.kids.length cap, .int .i64 n.from', .int .i64 n.till] 24)).alloc (.cells #[.int .i64 n.kind, .string n.text, .slice b2 n.kids.length cap2, .int .i64 n.from', .int .i64 n.till] 24)) (w.heap.size + 1) n.kind n.text b2 n.kids.length cap2 n.from' n.till := hb2x
  generalize World.alloc (World.alloc w _) _ = w1 at *
  clear hb2x
  have HB := Lib.hid hba
  have HX := Lib.hid hbx
  obtain ⟨d0, d1, d2, d3, d4, g0, g1, g2, g3, g4⟩ := NdBox.facts hbx
  obtain ⟨x0, x1, x2, x3, x4, y0, y1, y2, y3, y4⟩ := NdBox.facts hbz
  have HN := Lib.hid ((samenode_any n _ _ w1 L B (NdV_bel HV.out.v (hba.mono hB)) (NdV_bel HU.out (hba.mono hB)) (Nat.le_trans hB hba.size) hsz))
  clear hba hbx hbz
  go_wp2_with fail
  refine HN.out.mono ?_
  rintro e w2 ⟨rfl, hb2⟩
  have HX2 := Lib.hid (HX.out.bel hb2 HX.out.lt)
  have HB2 := Lib.hid (bel_next HB.out hb2)
  clear hb2 d0 d1 d2 d3 d4 g0 g1 g2 g3 g4 x0 x1 x2 x3 x4 y0 y1 y2 y3 y4 HX HN
  obtain ⟨d0, d1, d2, d3, d4, g0, g1, g2, g3, g4⟩ := NdBox.facts HX2.out
  have HN := Lib.hid ((room_any n _ w2 L B (HV.out.bel (HB2.out.mono hB)) (Nat.le_trans hB HB2.out.size) hsz))
  go_wp2_with fail
  refine HN.out.mono ?_
  rintro e w3 ⟨rfl, hb3⟩
  have HB3 := Lib.hid (bel_next HB2.out hb3)
  clear hb3
  go_wp2_with fail
  go_ret
  exact ⟨rfl, HB3.out⟩
/-- at most so deep: the law's own question. -/
theorem shallowNode_any (n : Nd) (v : Value) (w : World) (L B : Nat) (hv : NdV w L B n v) (hB : B ≤ w.heap.size) (hsz : ndSize n ≤ 4194304) :
    Calls Tryz.prog 7 #[v] w fun e w' => e = .returned (.bool (shal 16384 n)) ∧ Below w.heap.size w w' := by
  have HV := Lib.hid hv
  obtain ⟨b, cap, rfl, _⟩ := hv
  unfold ndCells at *
  go_enter Tryz.func7, Tryz.ntmps7
  go_upto_region 1 with fail
  have hba : Below w.heap.size w (w.alloc (.cells #[.int .i64 n.kind, .string n.text, .slice b n.kids.length cap, .int .i64 n.from', .int .i64 n.till] 24)) := Below.alloc (Below.refl _ w) (Nat.le_refl _) _
  have hbx : NdBox (w.alloc (.cells #[.int .i64 n.kind, .string n.text, .slice b n.kids.length cap, .int .i64 n.from', .int .i64 n.till] 24)) w.heap.size n.kind n.text b n.kids.length cap n.from' n.till := heap_alloc_new _ _
  generalize World.alloc w _ = w1 at *
  have HB := Lib.hid hba
  obtain ⟨d0, d1, d2, d3, d4, g0, g1, g2, g3, g4⟩ := NdBox.facts hbx
  have HN := Lib.hid ((shallow_any n 16384 16384 _ w1 L B rfl (Nat.le_refl _) (NdV_bel HV.out (hba.mono hB)) (Nat.le_trans hB hba.size) hsz))
  clear hba hbx
  go_wp2_with fail
  refine HN.out.mono ?_
  rintro e w2 ⟨rfl, hb2⟩
  have HB2 := Lib.hid (bel_next HB.out hb2)
  clear hb2
  go_wp2_with fail
  go_ret
  exact ⟨rfl, HB2.out⟩
end Go.Proofs.YteejjkfmmhegmaaGreatDoor
