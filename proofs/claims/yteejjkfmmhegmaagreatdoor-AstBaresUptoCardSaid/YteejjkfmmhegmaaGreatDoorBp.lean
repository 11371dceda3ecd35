/- Contract of the program's bare (a node at a place). Condition: at most 2^22 nodes. -/
import Derived.Test.YteejjkfmmhegmaaGreatDoorBr
namespace Go.Proofs.YteejjkfmmhegmaaGreatDoor
open Go.RowKit

/-- the loop through the Parens: the place holds a node that is bare as n is. -/
def UnB (w0 : World) (q L B : Nat) (n : Nd) (s : Nat) (v : Value) (wr : World) : Prop := ∃ (m : Nd) (g o : Nat), ndSize m = s ∧ v = .pointer (some ⟨g, o, none⟩) ∧ bareNd m = bareNd n ∧ ndSize m ≤ ndSize n ∧ NdC wr L B m g o ∧ NdBoxV wr q 0 ⟨#[]⟩ (.slice none 0 0) 0 0 ∧ Below w0.heap.size w0 wr
theorem kidC {w : World} {L B : Nat} {a : Option Addr} {ks : List Nd} (h : RowP w L B ks a 0) (j : Nat) (hj : j < ks.length) : ∃ g off, a = some ⟨g, off, none⟩ ∧ g < B ∧ NdC w L B ks[j] g (off + j * 5) := by
  obtain ⟨g, off, ha, hn⟩ := RowP_get h j hj
  rw [Nat.zero_add] at hn
  have h2 := hn
  rw [NdC_eq] at h2
  obtain ⟨_, _, _, h3, _⟩ := h2
  exact ⟨g, off, ha, h3, hn⟩
set_option maxRecDepth 20000 in
set_option maxHeartbeats 2000000 in
theorem bare_any (n : Nd) : ∀ (g o : Nat) (w : World) (L B : Nat), NdC w L B n g o → B ≤ w.heap.size → ndSize n ≤ 4194304 →
    Calls Tryz.prog 26 #[.pointer (some ⟨g, o, none⟩)] w fun e w' => ∃ u, e = .returned u ∧ NdW w' w.heap.size w'.heap.size (bareNd n) u ∧ Below w.heap.size w w' := by
  induction n using Nd.indS with
  | h n ih =>
    intro g o w L B hn hB hsz
    have HIH := Lib.hid (fun (W : World) (x : Nd) (hx : ndSize x < ndSize n) (g o : Nat) (hu : NdC W L B x g o) (hW : B ≤ W.heap.size) => ih x hx g o W L B hu hW (by omega))
    clear ih
    go_enter Tryz.func26, Tryz.ntmps26
    have hS : NdC (w.alloc (.cells #[.int .i64 0, .string ⟨#[]⟩, .slice none 0 0, .int .i64 0, .int .i64 0] 24)) L B n g o := NdC_bel hn ((Below.alloc (Below.refl _ _) (Nat.le_refl _) _).mono hB)
    have hQ : NdBoxV (w.alloc (.cells #[.int .i64 0, .string ⟨#[]⟩, .slice none 0 0, .int .i64 0, .int .i64 0] 24)) w.heap.size 0 ⟨#[]⟩ (.slice none 0 0) 0 0 := heap_alloc_new _ _
    have hBl : Below w.heap.size w (w.alloc (.cells #[.int .i64 0, .string ⟨#[]⟩, .slice none 0 0, .int .i64 0, .int .i64 0] 24)) := Below.alloc (Below.refl _ _) (Nat.le_refl _) _
    obtain ⟨i0, hi, hz0, hz1, hz2⟩ := info_parts infoNd
    go_wp2_with fail
    generalize World.alloc w _ = w1 at *
    generalize hq : w.heap.size = q at hS hQ
    have HQ := Lib.hid hq
    have HUN := Lib.hid (show UnB w q L B n (ndSize n) (.pointer (some ⟨g, o, none⟩)) w1 from ⟨n, g, o, rfl, rfl, rfl, Nat.le_refl _, hS, hQ, hBl⟩)
    clear hq hS hQ hn hBl
    go_loopg [0] (ndSize n) (fun s v wr => UnB w q L B n s v wr)
    case atStart => exact HUN.out
    case round =>
      clear HUN
      obtain ⟨m, g, o, hms, rfl, hbm, hle, hnc, hres, hbl⟩ := hrel
      have HMS := Lib.hid hms
      have HBM := Lib.hid hbm
      have HRES := Lib.hid hres
      have HBL := Lib.hid hbl
      have HNC := Lib.hid hnc
      rw [NdC_eq] at hnc
      obtain ⟨b1, cap1, hL1, hg1, d0, d1, d2, d3, d4, hcap1, hrow1⟩ := hnc
      have hgw : g < wr.heap.size := Nat.lt_of_lt_of_le hg1 (Nat.le_trans hB hbl.size)
      obtain ⟨x0, x1, x2, x3, x4, y0, y1, y2, y3, y4⟩ := NdBoxV.facts hres
      have hkc := kid_count m
      clear hms hbm hres hbl
      have HROW := Lib.hid hrow1
      clear hrow1
      by_cases hk : m.kind = 26
      · have e1 : (m.kind == 26) = true := by rw [hk]; rfl
        by_cases h0 : m.kids.length = 0
        · have e2 : (((m.kids.length : Nat) : Int) == 0) = true := by rw [h0]; rfl
          have HB := Lib.hid (show bareNd n = .zero by
            rw [← HBM.out, bareNd_eq, if_pos hk, List.length_eq_zero_iff.1 h0, bareFst])
          clear hk h0
          go_wp2_with fail
          refine bodyPost_ret (results_nd rfl _ _ q rfl (HRES.out.lay (k := 0) (t := ⟨#[]⟩) (v := .slice none 0 0) (f := 0) (u := 0))) rfl ?_
          refine ⟨_, rfl, by rw [HB.out]; exact NdW.zero _ _ _, lay5_bel HBL.out (by have := HQ.out; omega) _ _ _ _ _⟩
        · have h00 : 0 < m.kids.length := by omega
          have e2 : (((m.kids.length : Nat) : Int) == 0) = false := by rw [beq_eq_false_iff_ne]; omega
          obtain ⟨g2, off, rfl, hgB, hkn⟩ := kidC HROW.out 0 h00
          have HKB := Lib.hid (show bareNd m.kids[0] = bareNd n by rw [← HBM.out, bareNd_eq m, if_pos hk, bareFst_get h00])
          have HKS := Lib.hid (show ndSize m.kids[0] < gk by rw [← HMS.out]; exact kid_size h00)
          have HGK := Lib.hid (show ndSize m.kids[0] ≤ ndSize n by have := kid_size h00; omega)
          generalize m.kids[0] = x at *
          rw [Nat.zero_mul, Nat.add_zero] at hkn
          have HKN := Lib.hid hkn
          clear hk h0 hkn
          go_wp2_with fail
          go_roundg (ndSize x)
          case measure => exact HKS.out
          case rel => exact ⟨x, g2, off, rfl, by simp, HKB.out, HGK.out, HKN.out, HRES.out, HBL.out⟩
      · have e1 : (m.kind == 26) = false := by rw [beq_eq_false_iff_ne]; exact hk
        have HBE := Lib.hid (show bareNd n = .mk m.kind m.text (m.kids.map bareNd) 0 0 by rw [← HBM.out, bareNd_eq, if_neg hk])
        clear hk
        go_upto_region 5 with fail
        go_region
        have hbd : Below wr.heap.size wr (wr.alloc (.cells #[.int .i64 m.kind, .string m.text, .slice none 0 0, .int .i64 0, .int .i64 0] 24)).drew := Below.drew (Below.alloc (Below.refl _ _) (Nat.le_refl _) _)
        have hNC2 : NdC (wr.alloc (.cells #[.int .i64 m.kind, .string m.text, .slice none 0 0, .int .i64 0, .int .i64 0] 24)).drew L B m g o := NdC_bel HNC.out (hbd.mono (Nat.le_trans hB HBL.out.size))
        have hOU : OuS w q wr.heap.size m.kind m.text 0 0 (.slice none 0 0) ((m.kids.take 0).map bareNd) (wr.alloc (.cells #[.int .i64 m.kind, .string m.text, .slice none 0 0, .int .i64 0, .int .i64 0] 24)).drew :=
          ⟨HRES.out.bel hbd, heap_alloc_new wr _, KRow.nil _ _ _, bel_next HBL.out hbd, by have := HQ.out; omega, HRES.out.lt⟩
        clear hbd
        generalize hw2 : World.drew (World.alloc wr _) = w2 at *
        generalize hr : wr.heap.size = r at *
        have HS2 := Lib.hid hNC2
        have HOU := Lib.hid hOU
        have HSZ := Lib.hid hle
        clear hw2 hr hNC2 hOU x0 x1 x2 x3 x4 y0 y1 y2 y3 y4 d0 d1 d2 d3 d4 HROW
        clear HRES HNC HBL
        have HST0 := Lib.hid (show ∃ (b2 : Option Addr) (cap2 : Nat), w2.cell? ⟨g, o + 2, none⟩ = some (.slice b2 m.kids.length cap2) ∧ g < w2.heap.size from by
          have h := HS2.out
          rw [NdC_eq] at h
          obtain ⟨b2, cap2, _, hg2, _, _, z2, _⟩ := h
          exact ⟨b2, cap2, z2, Nat.lt_of_lt_of_le hg2 (Nat.le_trans hB HOU.out.bel.size)⟩)
        obtain ⟨b2, cap2, z2, hgr⟩ := HST0.out
        clear HST0
        go_wp2_with fail
        clear z2
        go_loopw [36] (fun i wr => ∃ (k : Nat) (vk : Value), k ≤ m.kids.length ∧ i = .int .i64 k ∧ NdC wr L B m g o ∧ OuS w q r m.kind m.text 0 0 vk ((m.kids.take k).map bareNd) wr) (fun i _ => m.kids.length - (intOf i).toNat)
        case atStart => exact ⟨0, _, Nat.zero_le _, rfl, HS2.out, HOU.out⟩
        case round =>
          clear HS2 HOU
          obtain ⟨k, vk, hkl, rfl, hst, hou⟩ := hrel
          have HS3 := Lib.hid hst
          have HO3 := Lib.hid hou
          rw [NdC_eq] at hst
          obtain ⟨b3, cap3, _, hg3, d0, d1, d2, d3, d4, hcap3, hrow3⟩ := hst
          have hBw := Nat.le_trans hB hou.bel.size
          have hgw3 : g < wr.heap.size := Nat.lt_of_lt_of_le hg3 hBw
          obtain ⟨x0, x1, x2, x3, x4, y0, y1, y2, y3, y4⟩ := NdBoxV.facts hou.out
          by_cases hlt : k < m.kids.length
          · obtain ⟨g2, off, rfl, hgB, hkn⟩ := kidC hrow3 k hlt
            have hkl2 : ((m.kids.take k).map bareNd).length = k := by rw [List.length_map, List.length_take]; omega
            have HKS := Lib.hid (show ndSize m.kids[k] < ndSize n by have := kid_size hlt; have := HSZ.out; omega)
            have HCALL := Lib.hid (fun (W : World) (hW : Below wr.heap.size wr W) => out_use hou hkl2 hW (HIH.out W _ HKS.out _ _ (NdC_bel hkn (hW.mono hBw)) (Nat.le_trans hBw hW.size)))
            have HTK := Lib.hid (show (m.kids.take (k + 1)).map bareNd = (m.kids.take k).map bareNd ++ [bareNd m.kids[k]] by rw [List.take_succ_eq_append_getElem hlt, List.map_append]; rfl)
            have hrl := hou.out.lt
            have hBr : B ≤ r := Nat.le_trans hB (Nat.le_trans hou.hq (Nat.le_of_lt hou.qr))
            have hwr := Nat.le_trans hou.hq (Nat.le_of_lt hou.qr)
            generalize hys : (m.kids.take k).map bareNd = ys at *
            generalize hyd : bareNd m.kids[k] = y at *
            generalize m.kids[k] = x at *
            have HKL := Lib.hid hkl2
            clear hou hkn hkl2 hys hyd HKS hrow3
            go_upto_region 9 with fail
            go_region_law (first | ((go_simp; (with_reducible refine (HCALL.out _ (Below.drew (Below.refl _ _))).mono ?_); rintro e w2 ⟨bu, cu, rfl, hru, hb2, hkr2, hln2, e2, f2, hs2⟩; have HLN := Lib.hid hln2; clear hln2)) | ((refine step_append_lies _ (by rfl) _ _ _ (by rfl) (r + 1) 24 i0 _ 5 64 (by kernel_rfl) hi hz0 hz1 hz2 (by rfl) (by decide) vk k hkr2.cells (by rfl) ((hkr2.own HLN.out).alloc _) ⟨w2.heap.size, 0, none⟩ 1 1 [.int .i64 y.kind, .string y.text, .slice bu y.kids.length cu, .int .i64 y.from', .int .i64 y.till] (by rfl) (by rfl) (World.news_of_block (heap_alloc_new _ _)) five_one (by decide) (by unfold maxLen; omega) (by omega) (by rw [World.size_alloc]; omega) (w2.heap.size + 1) (by simp) ?_; intro g1 cap1 w3 hown3 hgrow3 hat3 hlt3; have b3 := push_far hgrow3 (hkr2.own HLN.out) hs2; have e3 := (World.cell?_of_block (a := ⟨r, 2, none⟩) b3).trans e2; have f3 := (World.frozen?_of_block (a := ⟨r, 2, none⟩) b3).trans f2)))
            all_goals
              have hst3 := OuS.step HO3.out hb2 hru hkr2 HKL.out hown3 hgrow3 hat3
              have HST3 := Lib.hid hst3
              clear hst3 hown3 hgrow3 hat3 hkr2 hru hb2
              go_wp2_with fail
              go_roundw
              case rel => exact ⟨k + 1, _, hlt, by go_num, NdC_bel HS3.out (HST3.out.2.mono hBr), by rw [HTK.out]; exact HST3.out.1⟩
              case measure => simp [intOf]; omega
          · obtain rfl : k = m.kids.length := by omega
            rw [List.take_length] at hou
            obtain ⟨b', cap', hvk, hnv, hbel, hbox⟩ := OuS.done (n := .mk m.kind m.text (m.kids.map bareNd) 0 0) hou
            simp only [Nd.kind, Nd.text, Nd.kids, Nd.from', Nd.till, List.length_map] at hvk hnv hbel hbox
            subst hvk
            obtain ⟨u0, u1, u2, u3, u4, v0, v1, v2, v3, v4⟩ := NdBoxV.facts hou.res
            have HNV := Lib.hid hnv
            have HBL := Lib.hid hbel
            have HBX := Lib.hid hbox
            clear hou hnv hbel hbox hrow3
            go_wp2_with fail
            refine bodyPost_ret (results_nd rfl _ _ q rfl HBX.out) rfl ?_
            exact ⟨_, rfl, by rw [HBE.out]; exact HNV.out, HBL.out⟩
end Go.Proofs.YteejjkfmmhegmaaGreatDoor
