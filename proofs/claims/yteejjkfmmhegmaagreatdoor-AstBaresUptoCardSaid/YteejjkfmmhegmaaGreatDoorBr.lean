/- Contracts of bare (the program's and the reference's). Condition: at most 2^22 nodes. -/
import Derived.Test.YteejjkfmmhegmaaGreatDoorCp
import Derived.Deep.LoopGhost
namespace Go.Proofs.YteejjkfmmhegmaaGreatDoor
open Go.RowKit

theorem Nd.indS {P : Nd → Prop} (h : ∀ n, (∀ x, ndSize x < ndSize n → P x) → P n) (n : Nd) : P n := by
  have key : ∀ m n, ndSize n ≤ m → P n := by
    intro m
    induction m with
    | zero => intro n hn; rw [ndSize_eq] at hn; omega
    | succ m ih => intro n hn; exact h n fun x hx => ih x (by omega)
  exact key _ n (Nat.le_refl _)
/-- a node under way in its block r, its result's block q; xs: the kids so far. -/
structure OuS (w0 : World) (q r : Nat) (ok : Int) (ot : ByteArray) (f u : Int) (vk : Value) (xs : List Nd) (wr : World) : Prop where
  res : NdBoxV wr q 0 ⟨#[]⟩ (.slice none 0 0) 0 0
  out : NdBoxV wr r ok ot vk f u
  kr : KRow RowE wr (r + 1) vk xs
  bel : Below w0.heap.size w0 wr
  hq : w0.heap.size ≤ q
  qr : q < r
theorem OuS.bel' {w0 wr w' : World} {q r : Nat} {ok : Int} {ot : ByteArray} {f u : Int} {vk : Value} {xs : List Nd} (h : OuS w0 q r ok ot f u vk xs wr) (hb : Below wr.heap.size wr w') : OuS w0 q r ok ot f u vk xs w' :=
  ⟨h.res.bel hb, h.out.bel hb, h.kr.bel RowE.keeps hb, bel_next h.bel hb, h.hq, h.qr⟩
/-- one kid more. -/
theorem OuS.step {w0 wr w2 w3 : World} {q r m : Nat} {ok : Int} {ot : ByteArray} {f u : Int} {vk : Value} {xs : List Nd} {x : Nd} {bu : Option Addr} {cu g cap1 : Nat} {o : Obj} (h : OuS w0 q r ok ot f u vk xs wr)
    (hb2 : Below wr.heap.size wr w2) (hru : RowE w2 wr.heap.size w2.heap.size x bu cu) (hkr2 : KRow RowE w2 (r + 1) vk xs) (hlen : xs.length = m)
    (ho : w3.ownsRow (r + 1) 24 5 (.slice (some ⟨g, 0, none⟩) (m + 1) cap1) (m + 1) (hkr2.cells ++ (ndCells x.kind x.text bu x.kids.length cu x.from' x.till).toList))
    (hg : (w2.alloc o).grownBy w3 vk.ownBlock) (hat : vk.ownBlock = some g ∨ g = w2.heap.size + 1) :
    OuS w0 q r ok ot f u (.slice (some ⟨g, 0, none⟩) (m + 1) cap1) (xs ++ [x]) (w3.setCell ⟨r, 2, none⟩ (.slice (some ⟨g, 0, none⟩) (m + 1) cap1)) ∧ Below r wr (w3.setCell ⟨r, 2, none⟩ (.slice (some ⟨g, 0, none⟩) (m + 1) cap1)) := by
  have hown := hkr2.own hlen
  have hqr := h.qr
  have hwq := h.hq
  have hrl := h.out.lt
  have hs2 := hb2.size
  have hlow : Below r wr (w3.setCell ⟨r, 2, none⟩ (.slice (some ⟨g, 0, none⟩) (m + 1) cap1)) := by
    have h3 : Below r w2 w3 := by
      refine ((Below.refl r w2).alloc (by omega) o).grown hg (by rw [World.size_alloc]; omega) (fun i e => ?_)
      have := (hown.lt i e).1
      omega
    exact ((hb2.mono (by omega)).trans h3).setCell (p := ⟨r, 2, none⟩) (Nat.le_refl _) _
  have hkr : KRow RowE w3 (r + 1) (.slice (some ⟨g, 0, none⟩) (m + 1) cap1) (xs ++ [x]) :=
    KRow.push RowE.keeps hkr2 hlen (by omega) (fun i e => ((h.kr.own hlen).lt i e).2) (Nat.le_refl _) hru ho hg hat
  refine ⟨⟨(hlow.block q (by omega)).trans h.res, ?_, hkr.high RowE.keeps (by simp [World.setCell]) (fun i h1 _ => Below.heap_setCell _ _ _ _ (by show i ≠ r; omega)), h.bel.trans (hlow.mono (by omega)), hwq, hqr⟩, hlow⟩
  have h1 : w3.heap[r]? = some (.cells #[.int .i64 ok, .string ot, vk, .int .i64 f, .int .i64 u] 24 (0, 0)) := (push_far hg hown (by omega)).trans (h.out.bel hb2)
  exact heap_setCell_same w3 r 2 _ 24 (.slice (some ⟨g, 0, none⟩) (m + 1) cap1) h1
/-- the result. -/
theorem OuS.done {w0 wr : World} {q r : Nat} {n : Nd} {vk : Value} (h : OuS w0 q r n.kind n.text n.from' n.till vk n.kids wr) :
    ∃ b' cap', vk = .slice b' n.kids.length cap' ∧ NdW (lay5 wr q n.kind n.text (.slice b' n.kids.length cap') n.from' n.till) w0.heap.size (lay5 wr q n.kind n.text (.slice b' n.kids.length cap') n.from' n.till).heap.size n (.agg #[.int .i64 n.kind, .string n.text, .slice b' n.kids.length cap', .int .i64 n.from', .int .i64 n.till]) ∧
      Below w0.heap.size w0 (lay5 wr q n.kind n.text (.slice b' n.kids.length cap') n.from' n.till) ∧ NdBoxV (lay5 wr q n.kind n.text (.slice b' n.kids.length cap') n.from' n.till) q n.kind n.text (.slice b' n.kids.length cap') n.from' n.till := by
  have h1 := h.hq
  have h2 := h.qr
  obtain ⟨b', cap', hv, hc, hr, hr2⟩ := h.kr.row
  refine ⟨b', cap', hv, ⟨b', cap', rfl, ?_⟩, lay5_bel h.bel (by omega) _ _ _ _ _, h.res.lay⟩
  rw [lay5_size]
  exact RowE.keeps.k (by omega) (Nat.le_refl _) (fun i h4 _ => lay5_block _ _ _ _ _ _ _ _ (by omega)) ⟨hc, hr, hr2⟩
/-- what a round uses of the call. -/
theorem out_use {fn : Nat} {w0 wr W : World} {q r m : Nat} {ok : Int} {ot : ByteArray} {f u : Int} {vk : Value} {xs : List Nd} {x : Nd} {args : Array Value} (h : OuS w0 q r ok ot f u vk xs wr) (hm : xs.length = m) (hW : Below wr.heap.size wr W)
    (hc : Calls Tryz.prog fn args W fun e w' => ∃ u, e = .returned u ∧ NdW w' W.heap.size w'.heap.size x u ∧ Below W.heap.size W w') :
    Calls Tryz.prog fn args W fun e w' => ∃ bu cu, e = .returned (.agg #[.int .i64 x.kind, .string x.text, .slice bu x.kids.length cu, .int .i64 x.from', .int .i64 x.till]) ∧ RowE w' wr.heap.size w'.heap.size x bu cu ∧ Below wr.heap.size wr w' ∧
      KRow RowE w' (r + 1) vk xs ∧ xs.length = m ∧ w'.cell? ⟨r, 2, none⟩ = some vk ∧ w'.frozen? ⟨r, 2, none⟩ = false ∧ r < w'.heap.size := by
  refine hc.mono fun e w' => ?_
  rintro ⟨u, rfl, ⟨bu, cu, rfl, hru⟩, hb⟩
  have hb2 := hW.trans (hb.mono hW.size)
  have ho := h.out.bel hb2
  obtain ⟨_, _, e2, _, _, _, _, f2, _, _⟩ := NdBoxV.facts ho
  exact ⟨bu, cu, rfl, RowE.keeps.k hW.size (Nat.le_refl _) (fun _ _ _ => rfl) hru, hb2, h.kr.bel RowE.keeps hb2, hm, e2, f2, ho.lt⟩
theorem NdW.zero (w : World) (L B : Nat) : NdW w L B .zero (.agg #[.int .i64 0, .string ⟨#[]⟩, .slice none 0 0, .int .i64 0, .int .i64 0]) :=
  ⟨none, 0, rfl, Nat.le_refl _, by show RowP _ _ _ [] _ _; rw [RowP]; trivial, by show ShR _ _ _ [] _ _; rw [ShR]; trivial⟩
theorem bareFst_get {ks : List Nd} (h : 0 < ks.length) : bareFst ks = bareNd ks[0] := by
  cases ks with
  | nil => simp at h
  | cons k ks => rw [bareFst]; rfl
theorem NSt.to {w0 wr : World} {p L B : Nat} {m x : Nd} {b b2 : Option Addr} {cap cap2 : Nat} (h : NSt w0 p L B m b cap wr) (hv : NdV wr L B x (.agg #[.int .i64 x.kind, .string x.text, .slice b2 x.kids.length cap2, .int .i64 x.from', .int .i64 x.till])) :
    NSt w0 p L B x b2 cap2 (lay5 wr p x.kind x.text (.slice b2 x.kids.length cap2) x.from' x.till) := by
  obtain ⟨b3, cap3, e, hc, hr⟩ := hv
  have hb : b3 = b2 ∧ cap3 = cap2 := by
    unfold ndCells at e
    simp only [Value.agg.injEq, Array.mk.injEq, List.cons.injEq, Value.slice.injEq, true_and, and_true] at e
    exact ⟨e.1.symm, e.2.symm⟩
  obtain ⟨rfl, rfl⟩ := hb
  have h1 := h.hp
  have h2 := h.hB
  exact ⟨NdBoxV.lay h.box, RowP_bel hr (lay5_bel (Below.refl _ _) (by omega) _ _ _ _ _), lay5_bel h.bel h1 _ _ _ _ _, h1, h2⟩
/-- the reference's loop through the Parens: the box holds a node that is bare as n is. -/
def UnP (w0 : World) (p q L B : Nat) (n : Nd) (s : Nat) (wr : World) : Prop := ∃ (m : Nd) (b : Option Addr) (cap : Nat), ndSize m = s ∧ bareNd m = bareNd n ∧ ndSize m ≤ ndSize n ∧ NSt w0 p L B m b cap wr ∧ NdBoxV wr q 0 ⟨#[]⟩ (.slice none 0 0) 0 0
set_option maxRecDepth 20000 in
set_option maxHeartbeats 2000000 in
theorem rbare_any (n : Nd) : ∀ (v : Value) (w : World) (L B : Nat), NdV w L B n v → B ≤ w.heap.size → ndSize n ≤ 4194304 →
    Calls Tryz.prog 28 #[v] w fun e w' => ∃ u, e = .returned u ∧ NdW w' w.heap.size w'.heap.size (bareNd n) u ∧ Below w.heap.size w w' := by
  induction n using Nd.indS with
  | h n ih =>
    intro v w L B hv hB hsz
    obtain ⟨b, cap, rfl, hcap, hrow⟩ := hv
    unfold ndCells
    have HIH := Lib.hid (fun (W : World) (x : Nd) (hx : ndSize x < ndSize n) (v : Value) (hu : NdV W L B x v) (hW : B ≤ W.heap.size) => ih x hx v W L B hu hW (by omega))
    have HST := Lib.hid (NSt.new (cap := cap) hrow hB)
    clear hrow ih
    go_enter Tryz.func28, Tryz.ntmps28
    have hS : NSt w w.heap.size L B n b cap ((w.alloc (.cells #[.int .i64 n.kind, .string n.text, .slice b n.kids.length cap, .int .i64 n.from', .int .i64 n.till] 24)).alloc (.cells #[.int .i64 0, .string ⟨#[]⟩, .slice none 0 0, .int .i64 0, .int .i64 0] 24)) := HST.out.bel' (Below.alloc (Below.refl _ _) (Nat.le_refl _) _)
    have hQ : NdBoxV ((w.alloc (.cells #[.int .i64 n.kind, .string n.text, .slice b n.kids.length cap, .int .i64 n.from', .int .i64 n.till] 24)).alloc (.cells #[.int .i64 0, .string ⟨#[]⟩, .slice none 0 0, .int .i64 0, .int .i64 0] 24)) (w.heap.size + 1) 0 ⟨#[]⟩ (.slice none 0 0) 0 0 := by
      have := heap_alloc_new (w.alloc (.cells #[.int .i64 n.kind, .string n.text, .slice b n.kids.length cap, .int .i64 n.from', .int .i64 n.till] 24)) (.cells #[.int .i64 0, .string ⟨#[]⟩, .slice none 0 0, .int .i64 0, .int .i64 0] 24)
      rw [World.size_alloc] at this
      exact this
    obtain ⟨i0, hi, hz0, hz1, hz2⟩ := info_parts infoNd
    go_wp2_with fail
    generalize World.alloc (World.alloc w _) _ = w1 at *
    generalize hp : w.heap.size = p at hS hQ
    generalize hq : p + 1 = q at *
    have HP := Lib.hid hp
    have HQ := Lib.hid hq
    have HUN := Lib.hid (show UnP w p q L B n (ndSize n) w1 from ⟨n, b, cap, rfl, rfl, Nat.le_refl _, hS, hQ⟩)
    have hpq : p < q := by omega
    clear hp hq hS hQ HST
    go_loopg [] (ndSize n) (fun s wr => UnP w p q L B n s wr)
    case atStart => exact HUN.out
    case round =>
      clear HUN
      obtain ⟨m, b1, cap1, hms, hbm, hle, hst, hres⟩ := hrel
      have HMS := Lib.hid hms
      have HBM := Lib.hid hbm
      have HST := Lib.hid hst
      have HRES := Lib.hid hres
      obtain ⟨d0, d1, d2, d3, d4, g0, g1, g2, g3, g4⟩ := NdBox.facts hst.box
      obtain ⟨x0, x1, x2, x3, x4, y0, y1, y2, y3, y4⟩ := NdBoxV.facts hres
      have hkc := kid_count m
      clear hms hbm hst hres
      by_cases hk : m.kind = 26
      · have e1 : (m.kind == 26) = true := by rw [hk]; rfl
        by_cases h0 : m.kids.length = 0
        · have e2 : (((m.kids.length : Nat) : Int) == 0) = true := by rw [h0]; rfl
          have HB := Lib.hid (show bareNd n = .zero by
            rw [← HBM.out, bareNd_eq, if_pos hk, List.length_eq_zero_iff.1 h0, bareFst])
          clear hk h0
          go_wp2_with fail
          refine bodyPost_ret (results_nd rfl _ _ q rfl (HRES.out.lay (k := 0) (t := ⟨#[]⟩) (v := .slice none 0 0) (f := 0) (u := 0))) rfl ?_
          refine ⟨_, rfl, by rw [HB.out]; exact NdW.zero _ _ _, lay5_bel HST.out.bel (by have := HST.out.hp; omega) _ _ _ _ _⟩
        · have h00 : 0 < m.kids.length := by omega
          have e2 : (((m.kids.length : Nat) : Int) == 0) = false := by rw [beq_eq_false_iff_ne]; omega
          obtain ⟨g, off, b2, cap2, rfl, hgB, c0, c1, c2, c3, c4, hkv⟩ := RowP_cells HST.out.row 0 h00
          have HKB := Lib.hid (show bareNd m.kids[0] = bareNd n by rw [← HBM.out, bareNd_eq m, if_pos hk, bareFst_get h00])
          have HKS := Lib.hid (show ndSize m.kids[0] < gk by rw [← HMS.out]; exact kid_size h00)
          have HGK := Lib.hid (show ndSize m.kids[0] ≤ ndSize n by have := kid_size h00; omega)
          generalize m.kids[0] = x at *
          rw [Nat.zero_mul] at c0 c1 c2 c3 c4
          simp only [Nat.add_zero] at c0 c1 c2 c3 c4
          have HKV := Lib.hid hkv
          have hgw := Nat.lt_of_lt_of_le hgB (Nat.le_trans HST.out.hB HST.out.bel.size)
          clear hk h0 hkv
          go_wp2_with fail
          go_roundg (ndSize x)
          case measure => exact HKS.out
          case rel => exact ⟨x, b2, cap2, rfl, HKB.out, HGK.out, HST.out.to HKV.out, (lay5_block wr p x.kind x.text (.slice b2 x.kids.length cap2) x.from' x.till q (by omega)).trans HRES.out⟩
      · have e1 : (m.kind == 26) = false := by rw [beq_eq_false_iff_ne]; exact hk
        have HBE := Lib.hid (show bareNd n = .mk m.kind m.text (m.kids.map bareNd) 0 0 by rw [← HBM.out, bareNd_eq, if_neg hk])
        clear hk
        go_upto_region 6 with fail
        have hST2 : NSt w p L B m b1 cap1 (wr.alloc (.cells #[.int .i64 m.kind, .string m.text, .slice none 0 0, .int .i64 0, .int .i64 0] 24)) := HST.out.bel' (Below.alloc (Below.refl _ _) (Nat.le_refl _) _)
        have hOU : OuS w q wr.heap.size m.kind m.text 0 0 (.slice none 0 0) ((m.kids.take 0).map bareNd) (wr.alloc (.cells #[.int .i64 m.kind, .string m.text, .slice none 0 0, .int .i64 0, .int .i64 0] 24)) :=
          ⟨HRES.out.bel (Below.alloc (Below.refl _ _) (Nat.le_refl _) _), heap_alloc_new _ _, KRow.nil _ _ _, hST2.bel, by have := HST.out.hp; omega, HRES.out.lt⟩
        generalize hw2 : World.alloc wr _ = w2 at *
        generalize hr : wr.heap.size = r at *
        have HS2 := Lib.hid hST2
        have HOU := Lib.hid hOU
        have HSZ := Lib.hid hle
        clear hw2 hr hST2 hOU x0 x1 x2 x3 x4 y0 y1 y2 y3 y4 d0 d1 d2 d3 d4 g0 g1 g2 g3 g4
        clear HST HRES
        go_wp2_with fail
        go_loopw [4] (fun i wr => ∃ (k : Nat) (vk : Value), k ≤ m.kids.length ∧ i = .int .i64 k ∧ NSt w p L B m b1 cap1 wr ∧ OuS w q r m.kind m.text 0 0 vk ((m.kids.take k).map bareNd) wr) (fun i _ => m.kids.length - (intOf i).toNat)
        case atStart => exact ⟨0, _, Nat.zero_le _, rfl, HS2.out, HOU.out⟩
        case round =>
          clear HS2 HOU
          obtain ⟨k, vk, hkl, rfl, hst, hou⟩ := hrel
          have HS3 := Lib.hid hst
          have HO3 := Lib.hid hou
          obtain ⟨d0, d1, d2, d3, d4, g0, g1, g2, g3, g4⟩ := NdBox.facts hst.box
          obtain ⟨x0, x1, x2, x3, x4, y0, y1, y2, y3, y4⟩ := NdBoxV.facts hou.out
          by_cases hlt : k < m.kids.length
          · obtain ⟨g, off, b', cap', rfl, hgB, c0, c1, c2, c3, c4, hkv⟩ := RowP_cells hst.row k hlt
            have hBw := Nat.le_trans hst.hB hst.bel.size
            have hkl2 : ((m.kids.take k).map bareNd).length = k := by rw [List.length_map, List.length_take]; omega
            have HKS := Lib.hid (show ndSize m.kids[k] < ndSize n by have := kid_size hlt; have := HSZ.out; omega)
            have HCALL := Lib.hid (fun (W : World) (hW : Below wr.heap.size wr W) => out_use hou hkl2 hW (HIH.out W _ HKS.out _ (NdV_bel hkv (hW.mono hBw)) (Nat.le_trans hBw hW.size)))
            have HTK := Lib.hid (show (m.kids.take (k + 1)).map bareNd = (m.kids.take k).map bareNd ++ [bareNd m.kids[k]] by rw [List.take_succ_eq_append_getElem hlt, List.map_append]; rfl)
            have hrl := hou.out.lt
            have hpl := hst.box.lt
            have hpr : p < r := by have := hou.qr; omega
            have hwr := Nat.le_trans hou.hq (Nat.le_of_lt hou.qr)
            generalize hys : (m.kids.take k).map bareNd = ys at *
            generalize hyd : bareNd m.kids[k] = y at *
            generalize m.kids[k] = x at *
            have HKL := Lib.hid hkl2
            clear hst hou hkv hkl2 hys hyd HKS
            go_upto_region 9 with fail
            go_region_law (first | ((go_simp; (with_reducible refine (HCALL.out _ (Below.drew (Below.refl _ _))).mono ?_); rintro e w2 ⟨bu, cu, rfl, hru, hb2, hkr2, hln2, e2, f2, hs2⟩; have HLN := Lib.hid hln2; clear hln2)) | ((refine step_append_lies _ (by rfl) _ _ _ (by rfl) (r + 1) 24 i0 _ 5 64 (by kernel_rfl) hi hz0 hz1 hz2 (by rfl) (by decide) vk k hkr2.cells (by rfl) ((hkr2.own HLN.out).alloc _) ⟨w2.heap.size, 0, none⟩ 1 1 [.int .i64 y.kind, .string y.text, .slice bu y.kids.length cu, .int .i64 y.from', .int .i64 y.till] (by rfl) (by rfl) (World.news_of_block (heap_alloc_new _ _)) five_one (by decide) (by unfold maxLen; omega) (by omega) (by rw [World.size_alloc]; omega) (w2.heap.size + 1) (by simp) ?_; intro g1 cap1 w3 hown3 hgrow3 hat3 hlt3; have b3 := push_far hgrow3 (hkr2.own HLN.out) hs2; have e3 := (World.cell?_of_block (a := ⟨r, 2, none⟩) b3).trans e2; have f3 := (World.frozen?_of_block (a := ⟨r, 2, none⟩) b3).trans f2)))
            all_goals
              have hst3 := OuS.step HO3.out hb2 hru hkr2 HKL.out hown3 hgrow3 hat3
              have HST3 := Lib.hid hst3
              clear hst3 hown3 hgrow3 hat3 hkr2 hru hb2
              go_wp2_with fail
              go_roundw
              case rel => exact ⟨k + 1, _, hlt, by go_num, HS3.out.low HST3.out.2 hpr, by rw [HTK.out]; exact HST3.out.1⟩
              case measure => simp [intOf]; omega
          · obtain rfl : k = m.kids.length := by omega
            rw [List.take_length] at hou
            obtain ⟨b', cap', hvk, hnv, hbel, hbox⟩ := OuS.done (n := .mk m.kind m.text (m.kids.map bareNd) 0 0) hou
            simp only [Nd.kind, Nd.text, Nd.kids, Nd.from', Nd.till, List.length_map] at hvk hnv hbel hbox
            subst hvk
            obtain ⟨u0, u1, u2, u3, u4, v0, v1, v2, v3, v4⟩ := NdBoxV.facts hou.res
            have HNV := Lib.hid hnv
            have HBL := Lib.hid hbel
            have HBX := Lib.hid hbox
            clear hst hou hnv hbel hbox
            go_wp2_with fail
            refine bodyPost_ret (results_nd rfl _ _ q rfl HBX.out) rfl ?_
            exact ⟨_, rfl, by rw [HBE.out]; exact HNV.out, HBL.out⟩
end Go.Proofs.YteejjkfmmhegmaaGreatDoor
