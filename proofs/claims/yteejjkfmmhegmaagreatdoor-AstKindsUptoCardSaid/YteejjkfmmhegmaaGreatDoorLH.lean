/- Contract of the reader's comment where one begins. Conditions as in ..LC. -/
import Derived.Test.YteejjkfmmhegmaaGreatDoorLG
namespace Go.Proofs.YteejjkfmmhegmaaGreatDoor
open Go.RowKit

theorem prefix_len {l p : List UInt8} (h : Lib.hasPrefix l p = true) : p.length ≤ l.length := by
  unfold Lib.hasPrefix at h
  exact (List.isPrefixOf_iff_prefix.1 h).length_le
theorem nx_ascii (c : UInt8) (t : List UInt8) (h : c.toNat < 128) : nx (c :: t) = (((c.toNat : Nat) : Int), (1 : Int)) := by
  have hd : Lib.decodeGo ⟨(c :: t).toArray⟩ = (c.toNat, 1) := by
    unfold Lib.decodeGo
    rw [if_neg (show ¬ (ByteArray.mk (c :: t).toArray).size = 0 from fun e => by cases e), Lib.decode_at]
    have hg : (ByteArray.mk (c :: t).toArray).get! 0 = c := rfl
    rw [hg]
    unfold Lib.decodeN
    rw [if_pos h]
  unfold nx
  rw [hd]
  simp only
  rw [if_neg (by omega)]
  rfl
theorem nx_star (l : List UInt8) (h : Lib.hasPrefix l [42, 47] = true) : (nx l).2 = 1 := by
  unfold Lib.hasPrefix at h
  cases l with
  | nil => cases h
  | cons c t =>
    rw [List.isPrefixOf_cons_cons, Bool.and_eq_true, beq_iff_eq] at h
    rw [← h.1, nx_ascii _ _ (by decide)]
theorem Cst.drew {b g r : Nat} {s : ByteArray} {w0 w : World} {x : Rd} {c : Cm} (h : Cst b g r s w0 x c w) : Cst b g r s w0 x c w.drew :=
  ⟨h.rd, h.cm, h.rs, ⟨h.but.os, h.but.tape, h.but.output, h.but.size, h.but.block⟩, h.rdy.bel (Below.drew (Below.refl _ _)), h.le, h.gg, h.rr, h.gb, h.rb, h.gr⟩
def CmRel (b g r : Nat) (s : ByteArray) (w : World) (p : Nat) (line : Bool) (fl cd K : Int) (blk : Bool) (wr : World) : Prop :=
  ∃ (k : Nat) (ln : Bool), p + 2 ≤ k ∧ Cst b g r s w ⟨k, line || ln, fl, cd⟩ ⟨K, ⟨#[]⟩, p, 0⟩ wr ∧ cmt blk (s.data.toList.drop (p + 2)) = (cmt blk (s.data.toList.drop k)).shift (k - (p + 2)) ln
set_option maxRecDepth 20000 in
set_option maxHeartbeats 4000000 in
theorem comment_1 (b : Nat) (s : ByteArray) (x : Rd) (w : World) (hx : RdAt w b s x) (hr : Ready b w) (hs : s.size ≤ 16777216) (hp : x.at' ≤ s.size) (h1 : Lib.hasPrefix (s.data.toList.drop x.at') [47, 47] = true) :
    Calls Tryz.prog 133 #[.pointer (some ⟨b, 0, none⟩)] w fun e w' => CmPost b s x.at' x.line x.fail x.code 1 w (cmt false (s.data.toList.drop (x.at' + 2))) e w' := by
  obtain ⟨p, line, fl, cd⟩ := x
  simp only at hp h1 ⊢
  have hk := cst_start hx hr hp ⟨0, ⟨#[]⟩, p, 0⟩
  have hbl := hx.lt
  obtain ⟨c0, c1, c2, c3, c4, f0, f1, f2, f3, f4⟩ := RdAt.facts hx
  have c0' : (w.alloc (.cells (Cm.cells ⟨0, ⟨#[]⟩, 0, 0⟩) 127)).cell? ⟨b, 0, none⟩ = some (.int .i64 p) := ((hx.bel (bel_alloc (Below.refl _ _) _)).cell 0)
  clear hx hr
  go_enter Tryz.func133, Tryz.ntmps133
  go_upto_region 3 with fail
  have e0 : ((w.alloc (.cells (Cm.cells ⟨0, ⟨#[]⟩, 0, 0⟩) 127)).alloc (.cells (Cm.cells ⟨0, ⟨#[]⟩, p, 0⟩) 127)) = ((w.alloc (.cells #[.int .i64 0, .string ⟨#[]⟩, .int .i64 0, .int .i64 0] 127)).alloc (.cells #[.int .i64 0, .string ⟨#[]⟩, .int .i64 p, .int .i64 0] 127)) := rfl
  rw [e0] at hk
  generalize ((w.alloc (.cells #[.int .i64 0, .string ⟨#[]⟩, .int .i64 0, .int .i64 0] 127)).alloc (.cells #[.int .i64 0, .string ⟨#[]⟩, .int .i64 p, .int .i64 0] 127)) = w1 at *
  clear c0 c1 c2 c3 c4 f0 f1 f2 f3 f4 e0 c0'
  have HBL := Lib.hid hbl
  have HK := Lib.hid hk
  clear hk hbl
  generalize hgg : w.heap.size + 1 = g at *
  clear hgg
  generalize hrr : w.heap.size = r at *
  rw [← hrr] at HBL
  clear hrr
  obtain ⟨c0, c1, c2, c3, c4, f0, f1, f2, f3, f4⟩ := RdAt.facts HK.out.rd; obtain ⟨d0, d1, d2, d3, g0, g1, g2, g3⟩ := CmAt.facts HK.out.cm; obtain ⟨z0, z1, z2, z3, y0, y1, y2, y3⟩ := CmAt.facts HK.out.rs
  have hl2 := prefix_len h1
  rw [List.length_drop, ofl] at hl2
  have hp2 : p + 2 ≤ s.size := by simp at hl2; omega
  clear hl2
  go_upto_region 4 with (go_at_call 136; refine (is_lit b s _ _ _ HK.out.rd HK.out.le).mono ?_; rintro e w9 ⟨rfl, hb⟩; clear c0 c1 c2 c3 c4 f0 f1 f2 f3 f4 d0 d1 d2 d3 g0 g1 g2 g3 z0 z1 z2 z3 y0 y1 y2 y3; replace HK := Lib.hid (HK.out.bel hb); clear hb; obtain ⟨c0, c1, c2, c3, c4, f0, f1, f2, f3, f4⟩ := RdAt.facts HK.out.rd; obtain ⟨d0, d1, d2, d3, g0, g1, g2, g3⟩ := CmAt.facts HK.out.cm; obtain ⟨z0, z1, z2, z3, y0, y1, y2, y3⟩ := CmAt.facts HK.out.rs)
  have hk := HK.out.setCm HBL.out (d := ⟨1, ⟨#[]⟩, p, 0⟩) 0 (.int .i64 1) rfl
  go_upto_region 9 with fail
  clear c0 c1 c2 c3 c4 f0 f1 f2 f3 f4 d0 d1 d2 d3 g0 g1 g2 g3 z0 z1 z2 z3 y0 y1 y2 y3
  clear HK
  generalize World.setCell _ _ _ = w3 at *
  have HK := Lib.hid hk
  clear hk
  obtain ⟨c0, c1, c2, c3, c4, f0, f1, f2, f3, f4⟩ := RdAt.facts HK.out.rd; obtain ⟨d0, d1, d2, d3, g0, g1, g2, g3⟩ := CmAt.facts HK.out.cm; obtain ⟨z0, z1, z2, z3, y0, y1, y2, y3⟩ := CmAt.facts HK.out.rs
  go_wp2_with fail
  have hk := HK.out.setRd (y := ⟨p + 2, line, fl, cd⟩) 0 (.int .i64 ((p : Int) + 2)) rfl hp2
  clear c0 c1 c2 c3 c4 f0 f1 f2 f3 f4 d0 d1 d2 d3 g0 g1 g2 g3 z0 z1 z2 z3 y0 y1 y2 y3
  clear HK
  generalize World.setCell _ _ _ = w4 at *
  have HK := Lib.hid hk
  clear hk h1
  go_loopw [5, 6, 7] (fun _ _ _ wr => CmRel b g r s w p line fl cd 1 false wr) (fun _ _ _ wr => s.size - rdPos wr b)
  case atStart =>
    refine ⟨p + 2, false, Nat.le_refl _, by rw [Bool.or_false]; exact HK.out, ?_⟩
    rw [Nat.sub_self]
    cases cmt false (s.data.toList.drop (p + 2)) <;> simp [CmO.shift]
  case round =>
    obtain ⟨k, ln, hk, hcst, heq⟩ := hrel
    have hle := hcst.le
    simp only at hle
    have HPOS := Lib.hid hcst.rd.pos
    have hst := cmt_step false (s.data.toList.drop k)
    have hnx := fun W hx hr => rnext_any b s ⟨k, line || ln, fl, cd⟩ W hx hr hle
    have hpb := fun W hx hr hn => pass_bad b s ⟨k, line || ln, fl, cd⟩ W hx hr hle hn
    have hpg := fun W m hx hr hn => pass_good b s ⟨k, line || ln, fl, cd⟩ W m hx hr hs hle hn
    have hpgt := fun W m hx hr hn => pass_good b s ⟨k, true, fl, cd⟩ W m hx hr hs hle hn
    have hge := nx_ge (s.data.toList.drop k)
    have hn1 := nx_star (s.data.toList.drop k)
    have hpz := fun h => nx_pos (l := s.data.toList.drop k) h
    rw [List.length_drop, ofl] at hpz
    have hdd := fun m : Nat => (List.drop_drop (i := m) (j := k) (l := s.data.toList))
    have hends := fun W => ends_any (nx (s.data.toList.drop k)).1 W
    clear HK
    have HK := Lib.hid hcst
    clear hcst
    simp only at hnx hpb hpg hpgt
    generalize he : endsR (nx (s.data.toList.drop k)).1 = ed at *
    generalize hc : (nx (s.data.toList.drop k)).1 = c at *
    generalize hn : (nx (s.data.toList.drop k)).2 = n at *
    clear he hc hn
    have HNX := Lib.hid hnx
    have HPB := Lib.hid hpb
    have HPG := Lib.hid hpg
    have HPGT := Lib.hid hpgt
    have HPZ := Lib.hid hpz
    have HEN := Lib.hid hends
    have HEQ := Lib.hid heq
    have HST := Lib.hid hst
    have HDD := Lib.hid hdd
    have HN1 := Lib.hid hn1
    clear hnx hpb hpg hpgt hpz hends heq hst hdd hn1
    obtain ⟨c0, c1, c2, c3, c4, f0, f1, f2, f3, f4⟩ := RdAt.facts HK.out.rd; obtain ⟨d0, d1, d2, d3, g0, g1, g2, g3⟩ := CmAt.facts HK.out.cm; obtain ⟨z0, z1, z2, z3, y0, y1, y2, y3⟩ := CmAt.facts HK.out.rs
    by_cases h0 : n = 0
    · have HF := Lib.hid (show cmt false (s.data.toList.drop (p + 2)) = .fine (k - (p + 2)) ln by rw [HEQ.out, HST.out, if_neg (fun h => by cases h.1), if_pos h0, if_neg (by decide)]; simp [CmO.shift])
      clear HEQ HST
      go_upto_region 22 with (go_at_call 130; refine (HNX.out _ HK.out.rd HK.out.rdy).mono ?_; rintro e w9 ⟨rfl, hb⟩; clear c0 c1 c2 c3 c4 f0 f1 f2 f3 f4 d0 d1 d2 d3 g0 g1 g2 g3 z0 z1 z2 z3 y0 y1 y2 y3; replace HK := Lib.hid (HK.out.bel hb); clear hb; obtain ⟨c0, c1, c2, c3, c4, f0, f1, f2, f3, f4⟩ := RdAt.facts HK.out.rd; obtain ⟨d0, d1, d2, d3, g0, g1, g2, g3⟩ := CmAt.facts HK.out.cm; obtain ⟨z0, z1, z2, z3, y0, y1, y2, y3⟩ := CmAt.facts HK.out.rs)
      go_upto_region 23 with fail
      have hkc := HK.out.setCm HBL.out (d := ⟨1, ⟨#[]⟩, p, (k : Int)⟩) 3 (.int .i64 ((k : Int))) rfl
      clear c0 c1 c2 c3 c4 f0 f1 f2 f3 f4 d0 d1 d2 d3 g0 g1 g2 g3 z0 z1 z2 z3 y0 y1 y2 y3
      clear HK
      generalize World.setCell _ _ _ = w5 at *
      have HK := Lib.hid hkc
      clear hkc
      obtain ⟨c0, c1, c2, c3, c4, f0, f1, f2, f3, f4⟩ := RdAt.facts HK.out.rd; obtain ⟨d0, d1, d2, d3, g0, g1, g2, g3⟩ := CmAt.facts HK.out.cm; obtain ⟨z0, z1, z2, z3, y0, y1, y2, y3⟩ := CmAt.facts HK.out.rs
      go_cut [113] from 105 to 114 (fun _ wx => Cst b g r s w ⟨k, line || ln, fl, cd⟩ ⟨1, s.extract p (k), p, (k : Int)⟩ wx)
      case first =>
        have hkd := (HK.out.setCm HBL.out (d := ⟨1, s.extract p (k), p, (k : Int)⟩) 1 (.string (s.extract p (k))) rfl).drew
        go_region
        all_goals go_wp2_with fail
        all_goals go_meet
        all_goals exact hkd
      case rest =>
        clear c0 c1 c2 c3 c4 f0 f1 f2 f3 f4 d0 d1 d2 d3 g0 g1 g2 g3 z0 z1 z2 z3 y0 y1 y2 y3
        clear HK
        have HK := Lib.hid hcut
        clear hcut
        obtain ⟨c0, c1, c2, c3, c4, f0, f1, f2, f3, f4⟩ := RdAt.facts HK.out.rd; obtain ⟨d0, d1, d2, d3, g0, g1, g2, g3⟩ := CmAt.facts HK.out.cm; obtain ⟨z0, z1, z2, z3, y0, y1, y2, y3⟩ := CmAt.facts HK.out.rs
        go_wp2_with fail
        (try simp only [Exit.inBlock, Exit.then])
        refine bodyPost_ret (results_cm2 rfl _ _ _ _ rfl (CmAt.lay HK.out.rs)) rfl ?_
        have hkn : p + 2 + (k - (p + 2)) = k := by omega
        rw [HF.out]
        unfold CmPost
        simp only [hkn]
        exact ⟨rfl, HK.out.ret⟩
    · by_cases hn0 : n < 0
      · have HF := Lib.hid (show cmt false (s.data.toList.drop (p + 2)) = .bad (k - (p + 2)) 502 by rw [HEQ.out, HST.out, if_neg (fun h => by cases h.1), if_neg h0, if_pos hn0]; simp [CmO.shift])
        clear HEQ HST
        go_wp2_with (first | (go_at_call 130; refine (HNX.out _ HK.out.rd HK.out.rdy).mono ?_; rintro e w9 ⟨rfl, hb⟩; clear c0 c1 c2 c3 c4 f0 f1 f2 f3 f4 d0 d1 d2 d3 g0 g1 g2 g3 z0 z1 z2 z3 y0 y1 y2 y3; replace HK := Lib.hid (HK.out.bel hb); clear hb; obtain ⟨c0, c1, c2, c3, c4, f0, f1, f2, f3, f4⟩ := RdAt.facts HK.out.rd; obtain ⟨d0, d1, d2, d3, g0, g1, g2, g3⟩ := CmAt.facts HK.out.cm; obtain ⟨z0, z1, z2, z3, y0, y1, y2, y3⟩ := CmAt.facts HK.out.rs) | (go_at_call 135; refine (HPB.out _ HK.out.rd HK.out.rdy hn0).mono ?_; rintro e w9 ⟨rfl, hx9, hb9⟩; clear c0 c1 c2 c3 c4 f0 f1 f2 f3 f4 d0 d1 d2 d3 g0 g1 g2 g3 z0 z1 z2 z3 y0 y1 y2 y3; replace HK := Lib.hid (HK.out.step hx9 hb9 hle); clear hx9 hb9; obtain ⟨c0, c1, c2, c3, c4, f0, f1, f2, f3, f4⟩ := RdAt.facts HK.out.rd; obtain ⟨d0, d1, d2, d3, g0, g1, g2, g3⟩ := CmAt.facts HK.out.cm; obtain ⟨z0, z1, z2, z3, y0, y1, y2, y3⟩ := CmAt.facts HK.out.rs))
        (try simp only [Exit.inBlock, Exit.then])
        refine bodyPost_ret (results_cm2 rfl _ _ _ _ rfl (CmAt.lay HK.out.rs)) rfl ?_
        rw [HF.out]
        exact ⟨_, _, rfl, HK.out.ret.1, rfl, by simp; omega, HK.out.ret.2⟩
      · obtain ⟨m, rfl, hm1, hm2, hm3⟩ := HPZ.out (by omega)
        have hm0 : 0 < m := by omega
        cases hed : ed with
        | true =>
          have HF := Lib.hid (show cmt false (s.data.toList.drop (p + 2)) = .fine (k - (p + 2)) ln by rw [HEQ.out, HST.out, if_neg (fun h => by cases h.1), if_neg h0, if_neg hn0, if_pos ⟨rfl, hed⟩]; simp [CmO.shift])
          rw [hed] at HEN
          clear HEQ HST hm3
          subst hed
          go_upto_region 22 with (first | (go_at_call 130; refine (HNX.out _ HK.out.rd HK.out.rdy).mono ?_; rintro e w9 ⟨rfl, hb⟩; clear c0 c1 c2 c3 c4 f0 f1 f2 f3 f4 d0 d1 d2 d3 g0 g1 g2 g3 z0 z1 z2 z3 y0 y1 y2 y3; replace HK := Lib.hid (HK.out.bel hb); clear hb; obtain ⟨c0, c1, c2, c3, c4, f0, f1, f2, f3, f4⟩ := RdAt.facts HK.out.rd; obtain ⟨d0, d1, d2, d3, g0, g1, g2, g3⟩ := CmAt.facts HK.out.cm; obtain ⟨z0, z1, z2, z3, y0, y1, y2, y3⟩ := CmAt.facts HK.out.rs) | (go_at_call 131; refine (HEN.out _).mono ?_; rintro e w9 ⟨rfl, hb⟩; clear c0 c1 c2 c3 c4 f0 f1 f2 f3 f4 d0 d1 d2 d3 g0 g1 g2 g3 z0 z1 z2 z3 y0 y1 y2 y3; replace HK := Lib.hid (HK.out.bel hb); clear hb; obtain ⟨c0, c1, c2, c3, c4, f0, f1, f2, f3, f4⟩ := RdAt.facts HK.out.rd; obtain ⟨d0, d1, d2, d3, g0, g1, g2, g3⟩ := CmAt.facts HK.out.cm; obtain ⟨z0, z1, z2, z3, y0, y1, y2, y3⟩ := CmAt.facts HK.out.rs))
          go_upto_region 23 with fail
          have hkc := HK.out.setCm HBL.out (d := ⟨1, ⟨#[]⟩, p, (k : Int)⟩) 3 (.int .i64 ((k : Int))) rfl
          clear c0 c1 c2 c3 c4 f0 f1 f2 f3 f4 d0 d1 d2 d3 g0 g1 g2 g3 z0 z1 z2 z3 y0 y1 y2 y3
          clear HK
          generalize World.setCell _ _ _ = w5 at *
          have HK := Lib.hid hkc
          clear hkc
          obtain ⟨c0, c1, c2, c3, c4, f0, f1, f2, f3, f4⟩ := RdAt.facts HK.out.rd; obtain ⟨d0, d1, d2, d3, g0, g1, g2, g3⟩ := CmAt.facts HK.out.cm; obtain ⟨z0, z1, z2, z3, y0, y1, y2, y3⟩ := CmAt.facts HK.out.rs
          go_cut [113] from 105 to 114 (fun _ wx => Cst b g r s w ⟨k, line || ln, fl, cd⟩ ⟨1, s.extract p (k), p, (k : Int)⟩ wx)
          case first =>
            have hkd := (HK.out.setCm HBL.out (d := ⟨1, s.extract p (k), p, (k : Int)⟩) 1 (.string (s.extract p (k))) rfl).drew
            go_region
            all_goals go_wp2_with fail
            all_goals go_meet
            all_goals exact hkd
          case rest =>
            clear c0 c1 c2 c3 c4 f0 f1 f2 f3 f4 d0 d1 d2 d3 g0 g1 g2 g3 z0 z1 z2 z3 y0 y1 y2 y3
            clear HK
            have HK := Lib.hid hcut
            clear hcut
            obtain ⟨c0, c1, c2, c3, c4, f0, f1, f2, f3, f4⟩ := RdAt.facts HK.out.rd; obtain ⟨d0, d1, d2, d3, g0, g1, g2, g3⟩ := CmAt.facts HK.out.cm; obtain ⟨z0, z1, z2, z3, y0, y1, y2, y3⟩ := CmAt.facts HK.out.rs
            go_wp2_with fail
            (try simp only [Exit.inBlock, Exit.then])
            refine bodyPost_ret (results_cm2 rfl _ _ _ _ rfl (CmAt.lay HK.out.rs)) rfl ?_
            have hkn : p + 2 + (k - (p + 2)) = k := by omega
            rw [HF.out]
            unfold CmPost
            simp only [hkn]
            exact ⟨rfl, HK.out.ret⟩
        | false =>
          have HN := Lib.hid (show cmt false (s.data.toList.drop (p + 2)) = (cmt false (s.data.toList.drop (k + m))).shift (k + m - (p + 2)) ln by rw [HEQ.out, HST.out, if_neg (fun h => by cases h.1), if_neg h0, if_neg hn0, if_neg (fun h => by rw [hed] at h; cases h.2), Int.toNat_natCast, HDD.out, hed, shift_shift, Bool.or_false, show k - (p + 2) + m = k + m - (p + 2) by omega])
          rw [hed] at HEN
          clear HEQ HST hm3
          subst hed
          have hpt : decide (0 < m) = true := decide_eq_true hm0
          have hpg2 := fun W hx hr => HPG.out W m hx hr rfl
          rw [hpt] at hpg2
          have HPG2 := Lib.hid hpg2
          clear hpg2 hpt
          go_wp2_with (first | (go_at_call 130; refine (HNX.out _ HK.out.rd HK.out.rdy).mono ?_; rintro e w9 ⟨rfl, hb⟩; clear c0 c1 c2 c3 c4 f0 f1 f2 f3 f4 d0 d1 d2 d3 g0 g1 g2 g3 z0 z1 z2 z3 y0 y1 y2 y3; replace HK := Lib.hid (HK.out.bel hb); clear hb; obtain ⟨c0, c1, c2, c3, c4, f0, f1, f2, f3, f4⟩ := RdAt.facts HK.out.rd; obtain ⟨d0, d1, d2, d3, g0, g1, g2, g3⟩ := CmAt.facts HK.out.cm; obtain ⟨z0, z1, z2, z3, y0, y1, y2, y3⟩ := CmAt.facts HK.out.rs) | (go_at_call 131; refine (HEN.out _).mono ?_; rintro e w9 ⟨rfl, hb⟩; clear c0 c1 c2 c3 c4 f0 f1 f2 f3 f4 d0 d1 d2 d3 g0 g1 g2 g3 z0 z1 z2 z3 y0 y1 y2 y3; replace HK := Lib.hid (HK.out.bel hb); clear hb; obtain ⟨c0, c1, c2, c3, c4, f0, f1, f2, f3, f4⟩ := RdAt.facts HK.out.rd; obtain ⟨d0, d1, d2, d3, g0, g1, g2, g3⟩ := CmAt.facts HK.out.cm; obtain ⟨z0, z1, z2, z3, y0, y1, y2, y3⟩ := CmAt.facts HK.out.rs) | (go_at_call 135; refine (HPG2.out _ HK.out.rd HK.out.rdy).mono ?_; rintro e w9 ⟨rfl, hx9, hb9⟩; clear c0 c1 c2 c3 c4 f0 f1 f2 f3 f4 d0 d1 d2 d3 g0 g1 g2 g3 z0 z1 z2 z3 y0 y1 y2 y3; replace HK := Lib.hid (HK.out.step hx9 hb9 (show k + m ≤ s.size by omega)); clear hx9 hb9; obtain ⟨c0, c1, c2, c3, c4, f0, f1, f2, f3, f4⟩ := RdAt.facts HK.out.rd; obtain ⟨d0, d1, d2, d3, g0, g1, g2, g3⟩ := CmAt.facts HK.out.cm; obtain ⟨z0, z1, z2, z3, y0, y1, y2, y3⟩ := CmAt.facts HK.out.rs))
          go_roundw
          case rel => exact ⟨k + m, ln, by omega, HK.out, HN.out⟩
          case measure => rw [HK.out.rd.pos, HPOS.out]; simp only; omega
set_option maxRecDepth 20000 in
set_option maxHeartbeats 4000000 in
theorem comment_2 (b : Nat) (s : ByteArray) (x : Rd) (w : World) (hx : RdAt w b s x) (hr : Ready b w) (hs : s.size ≤ 16777216) (hp : x.at' ≤ s.size) (h1 : Lib.hasPrefix (s.data.toList.drop x.at') [47, 47] = false) (h2 : Lib.hasPrefix (s.data.toList.drop x.at') [47, 42] = true) :
    Calls Tryz.prog 133 #[.pointer (some ⟨b, 0, none⟩)] w fun e w' => CmPost b s x.at' x.line x.fail x.code 2 w (cmt true (s.data.toList.drop (x.at' + 2))) e w' := by
  obtain ⟨p, line, fl, cd⟩ := x
  simp only at hp h1 h2 ⊢
  have hk := cst_start hx hr hp ⟨0, ⟨#[]⟩, p, 0⟩
  have hbl := hx.lt
  obtain ⟨c0, c1, c2, c3, c4, f0, f1, f2, f3, f4⟩ := RdAt.facts hx
  have c0' : (w.alloc (.cells (Cm.cells ⟨0, ⟨#[]⟩, 0, 0⟩) 127)).cell? ⟨b, 0, none⟩ = some (.int .i64 p) := ((hx.bel (bel_alloc (Below.refl _ _) _)).cell 0)
  clear hx hr
  go_enter Tryz.func133, Tryz.ntmps133
  go_upto_region 3 with fail
  have e0 : ((w.alloc (.cells (Cm.cells ⟨0, ⟨#[]⟩, 0, 0⟩) 127)).alloc (.cells (Cm.cells ⟨0, ⟨#[]⟩, p, 0⟩) 127)) = ((w.alloc (.cells #[.int .i64 0, .string ⟨#[]⟩, .int .i64 0, .int .i64 0] 127)).alloc (.cells #[.int .i64 0, .string ⟨#[]⟩, .int .i64 p, .int .i64 0] 127)) := rfl
  rw [e0] at hk
  generalize ((w.alloc (.cells #[.int .i64 0, .string ⟨#[]⟩, .int .i64 0, .int .i64 0] 127)).alloc (.cells #[.int .i64 0, .string ⟨#[]⟩, .int .i64 p, .int .i64 0] 127)) = w1 at *
  clear c0 c1 c2 c3 c4 f0 f1 f2 f3 f4 e0 c0'
  have HBL := Lib.hid hbl
  have HK := Lib.hid hk
  clear hk hbl
  generalize hgg : w.heap.size + 1 = g at *
  clear hgg
  generalize hrr : w.heap.size = r at *
  rw [← hrr] at HBL
  clear hrr
  obtain ⟨c0, c1, c2, c3, c4, f0, f1, f2, f3, f4⟩ := RdAt.facts HK.out.rd; obtain ⟨d0, d1, d2, d3, g0, g1, g2, g3⟩ := CmAt.facts HK.out.cm; obtain ⟨z0, z1, z2, z3, y0, y1, y2, y3⟩ := CmAt.facts HK.out.rs
  have hl2 := prefix_len h2
  rw [List.length_drop, ofl] at hl2
  have hp2 : p + 2 ≤ s.size := by simp at hl2; omega
  clear hl2
  go_upto_region 6 with (go_at_call 136; refine (is_lit b s _ _ _ HK.out.rd HK.out.le).mono ?_; rintro e w9 ⟨rfl, hb⟩; clear c0 c1 c2 c3 c4 f0 f1 f2 f3 f4 d0 d1 d2 d3 g0 g1 g2 g3 z0 z1 z2 z3 y0 y1 y2 y3; replace HK := Lib.hid (HK.out.bel hb); clear hb; obtain ⟨c0, c1, c2, c3, c4, f0, f1, f2, f3, f4⟩ := RdAt.facts HK.out.rd; obtain ⟨d0, d1, d2, d3, g0, g1, g2, g3⟩ := CmAt.facts HK.out.cm; obtain ⟨z0, z1, z2, z3, y0, y1, y2, y3⟩ := CmAt.facts HK.out.rs)
  have hk := HK.out.setCm HBL.out (d := ⟨2, ⟨#[]⟩, p, 0⟩) 0 (.int .i64 2) rfl
  go_upto_region 9 with fail
  clear c0 c1 c2 c3 c4 f0 f1 f2 f3 f4 d0 d1 d2 d3 g0 g1 g2 g3 z0 z1 z2 z3 y0 y1 y2 y3
  clear HK
  generalize World.setCell _ _ _ = w3 at *
  have HK := Lib.hid hk
  clear hk
  obtain ⟨c0, c1, c2, c3, c4, f0, f1, f2, f3, f4⟩ := RdAt.facts HK.out.rd; obtain ⟨d0, d1, d2, d3, g0, g1, g2, g3⟩ := CmAt.facts HK.out.cm; obtain ⟨z0, z1, z2, z3, y0, y1, y2, y3⟩ := CmAt.facts HK.out.rs
  go_wp2_with fail
  have hk := HK.out.setRd (y := ⟨p + 2, line, fl, cd⟩) 0 (.int .i64 ((p : Int) + 2)) rfl hp2
  clear c0 c1 c2 c3 c4 f0 f1 f2 f3 f4 d0 d1 d2 d3 g0 g1 g2 g3 z0 z1 z2 z3 y0 y1 y2 y3
  clear HK
  generalize World.setCell _ _ _ = w4 at *
  have HK := Lib.hid hk
  clear hk h1 h2
  go_loopw [5, 6, 7] (fun _ _ _ wr => CmRel b g r s w p line fl cd 2 true wr) (fun _ _ _ wr => s.size - rdPos wr b)
  case atStart =>
    refine ⟨p + 2, false, Nat.le_refl _, by rw [Bool.or_false]; exact HK.out, ?_⟩
    rw [Nat.sub_self]
    cases cmt true (s.data.toList.drop (p + 2)) <;> simp [CmO.shift]
  case round =>
    obtain ⟨k, ln, hk, hcst, heq⟩ := hrel
    have hle := hcst.le
    simp only at hle
    have HPOS := Lib.hid hcst.rd.pos
    have hst := cmt_step true (s.data.toList.drop k)
    have hnx := fun W hx hr => rnext_any b s ⟨k, line || ln, fl, cd⟩ W hx hr hle
    have hpb := fun W hx hr hn => pass_bad b s ⟨k, line || ln, fl, cd⟩ W hx hr hle hn
    have hpg := fun W m hx hr hn => pass_good b s ⟨k, line || ln, fl, cd⟩ W m hx hr hs hle hn
    have hpgt := fun W m hx hr hn => pass_good b s ⟨k, true, fl, cd⟩ W m hx hr hs hle hn
    have hge := nx_ge (s.data.toList.drop k)
    have hn1 := nx_star (s.data.toList.drop k)
    have hpz := fun h => nx_pos (l := s.data.toList.drop k) h
    rw [List.length_drop, ofl] at hpz
    have hdd := fun m : Nat => (List.drop_drop (i := m) (j := k) (l := s.data.toList))
    have hends := fun W => ends_any (nx (s.data.toList.drop k)).1 W
    clear HK
    have HK := Lib.hid hcst
    clear hcst
    simp only at hnx hpb hpg hpgt
    generalize he : endsR (nx (s.data.toList.drop k)).1 = ed at *
    generalize hc : (nx (s.data.toList.drop k)).1 = c at *
    generalize hn : (nx (s.data.toList.drop k)).2 = n at *
    clear he hc hn
    have HNX := Lib.hid hnx
    have HPB := Lib.hid hpb
    have HPG := Lib.hid hpg
    have HPGT := Lib.hid hpgt
    have HPZ := Lib.hid hpz
    have HEN := Lib.hid hends
    have HEQ := Lib.hid heq
    have HST := Lib.hid hst
    have HDD := Lib.hid hdd
    have HN1 := Lib.hid hn1
    clear hnx hpb hpg hpgt hpz hends heq hst hdd hn1
    obtain ⟨c0, c1, c2, c3, c4, f0, f1, f2, f3, f4⟩ := RdAt.facts HK.out.rd; obtain ⟨d0, d1, d2, d3, g0, g1, g2, g3⟩ := CmAt.facts HK.out.cm; obtain ⟨z0, z1, z2, z3, y0, y1, y2, y3⟩ := CmAt.facts HK.out.rs
    have his := fun W hx => is_lit b s ⟨k, line || ln, fl, cd⟩ [42, 47] W hx hle
    simp only at his
    have HIS := Lib.hid his
    clear his
    cases hcl : Lib.hasPrefix (s.data.toList.drop k) [42, 47] with
    | true =>
      have hk2 : k + 2 ≤ s.size := by
        have := prefix_len hcl
        rw [List.length_drop, ofl] at this
        simp at this
        omega
      have HF := Lib.hid (show cmt true (s.data.toList.drop (p + 2)) = .fine (k - (p + 2) + 2) ln by rw [HEQ.out, HST.out, if_pos ⟨rfl, hcl⟩]; simp [CmO.shift])
      obtain rfl := HN1.out hcl
      rw [hcl] at HIS
      clear HEQ HST hcl HN1 HPZ hge HPB HPG HPGT
      go_upto_region 13 with (first | (go_at_call 130; refine (HNX.out _ HK.out.rd HK.out.rdy).mono ?_; rintro e w9 ⟨rfl, hb⟩; clear c0 c1 c2 c3 c4 f0 f1 f2 f3 f4 d0 d1 d2 d3 g0 g1 g2 g3 z0 z1 z2 z3 y0 y1 y2 y3; replace HK := Lib.hid (HK.out.bel hb); clear hb; obtain ⟨c0, c1, c2, c3, c4, f0, f1, f2, f3, f4⟩ := RdAt.facts HK.out.rd; obtain ⟨d0, d1, d2, d3, g0, g1, g2, g3⟩ := CmAt.facts HK.out.cm; obtain ⟨z0, z1, z2, z3, y0, y1, y2, y3⟩ := CmAt.facts HK.out.rs) | (go_at_call 131; refine (HEN.out _).mono ?_; rintro e w9 ⟨rfl, hb⟩; clear c0 c1 c2 c3 c4 f0 f1 f2 f3 f4 d0 d1 d2 d3 g0 g1 g2 g3 z0 z1 z2 z3 y0 y1 y2 y3; replace HK := Lib.hid (HK.out.bel hb); clear hb; obtain ⟨c0, c1, c2, c3, c4, f0, f1, f2, f3, f4⟩ := RdAt.facts HK.out.rd; obtain ⟨d0, d1, d2, d3, g0, g1, g2, g3⟩ := CmAt.facts HK.out.cm; obtain ⟨z0, z1, z2, z3, y0, y1, y2, y3⟩ := CmAt.facts HK.out.rs) | (go_at_call 136; refine (HIS.out _ HK.out.rd).mono ?_; rintro e w9 ⟨rfl, hb⟩; clear c0 c1 c2 c3 c4 f0 f1 f2 f3 f4 d0 d1 d2 d3 g0 g1 g2 g3 z0 z1 z2 z3 y0 y1 y2 y3; replace HK := Lib.hid (HK.out.bel hb); clear hb; obtain ⟨c0, c1, c2, c3, c4, f0, f1, f2, f3, f4⟩ := RdAt.facts HK.out.rd; obtain ⟨d0, d1, d2, d3, g0, g1, g2, g3⟩ := CmAt.facts HK.out.cm; obtain ⟨z0, z1, z2, z3, y0, y1, y2, y3⟩ := CmAt.facts HK.out.rs))
      have hkc := HK.out.setRd (y := ⟨k + 2, line || ln, fl, cd⟩) 0 (.int .i64 ((k : Int) + 2)) rfl hk2
      go_upto_region 14 with fail
      clear c0 c1 c2 c3 c4 f0 f1 f2 f3 f4 d0 d1 d2 d3 g0 g1 g2 g3 z0 z1 z2 z3 y0 y1 y2 y3
      clear HK
      generalize World.setCell _ _ _ = w6 at *
      have HK := Lib.hid hkc
      clear hkc
      obtain ⟨c0, c1, c2, c3, c4, f0, f1, f2, f3, f4⟩ := RdAt.facts HK.out.rd; obtain ⟨d0, d1, d2, d3, g0, g1, g2, g3⟩ := CmAt.facts HK.out.cm; obtain ⟨z0, z1, z2, z3, y0, y1, y2, y3⟩ := CmAt.facts HK.out.rs
      go_upto_region 22 with fail
      go_upto_region 23 with fail
      have hkc := HK.out.setCm HBL.out (d := ⟨2, ⟨#[]⟩, p, ((k : Int) + 2)⟩) 3 (.int .i64 (((k : Int) + 2))) rfl
      clear c0 c1 c2 c3 c4 f0 f1 f2 f3 f4 d0 d1 d2 d3 g0 g1 g2 g3 z0 z1 z2 z3 y0 y1 y2 y3
      clear HK
      generalize World.setCell _ _ _ = w5 at *
      have HK := Lib.hid hkc
      clear hkc
      obtain ⟨c0, c1, c2, c3, c4, f0, f1, f2, f3, f4⟩ := RdAt.facts HK.out.rd; obtain ⟨d0, d1, d2, d3, g0, g1, g2, g3⟩ := CmAt.facts HK.out.cm; obtain ⟨z0, z1, z2, z3, y0, y1, y2, y3⟩ := CmAt.facts HK.out.rs
      go_cut [113] from 105 to 114 (fun _ wx => Cst b g r s w ⟨k + 2, line || ln, fl, cd⟩ ⟨2, s.extract p (k + 2), p, ((k : Int) + 2)⟩ wx)
      case first =>
        have hkd := (HK.out.setCm HBL.out (d := ⟨2, s.extract p (k + 2), p, ((k : Int) + 2)⟩) 1 (.string (s.extract p (k + 2))) rfl).drew
        go_region
        all_goals go_wp2_with fail
        all_goals go_meet
        all_goals exact hkd
      case rest =>
        clear c0 c1 c2 c3 c4 f0 f1 f2 f3 f4 d0 d1 d2 d3 g0 g1 g2 g3 z0 z1 z2 z3 y0 y1 y2 y3
        clear HK
        have HK := Lib.hid hcut
        clear hcut
        obtain ⟨c0, c1, c2, c3, c4, f0, f1, f2, f3, f4⟩ := RdAt.facts HK.out.rd; obtain ⟨d0, d1, d2, d3, g0, g1, g2, g3⟩ := CmAt.facts HK.out.cm; obtain ⟨z0, z1, z2, z3, y0, y1, y2, y3⟩ := CmAt.facts HK.out.rs
        go_wp2_with fail
        (try simp only [Exit.inBlock, Exit.then])
        refine bodyPost_ret (results_cm2 rfl _ _ _ _ rfl (CmAt.lay HK.out.rs)) rfl ?_
        have hkn : p + 2 + (k - (p + 2) + 2) = k + 2 := by omega
        rw [HF.out]
        unfold CmPost
        simp only [hkn]
        exact ⟨rfl, HK.out.ret⟩
    | false =>
      have hcl' : ¬ (true = true ∧ Lib.hasPrefix (s.data.toList.drop k) [42, 47] = true) := fun h => by rw [hcl] at h; cases h.2
      rw [hcl] at HIS
      clear HN1
      by_cases h0 : n = 0
      · have HF := Lib.hid (show cmt true (s.data.toList.drop (p + 2)) = .bad (k - (p + 2)) 507 by rw [HEQ.out, HST.out, if_neg hcl', if_pos h0, if_pos rfl]; simp [CmO.shift])
        clear HEQ HST hcl hcl'
        go_upto_region 16 with (first | (go_at_call 130; refine (HNX.out _ HK.out.rd HK.out.rdy).mono ?_; rintro e w9 ⟨rfl, hb⟩; clear c0 c1 c2 c3 c4 f0 f1 f2 f3 f4 d0 d1 d2 d3 g0 g1 g2 g3 z0 z1 z2 z3 y0 y1 y2 y3; replace HK := Lib.hid (HK.out.bel hb); clear hb; obtain ⟨c0, c1, c2, c3, c4, f0, f1, f2, f3, f4⟩ := RdAt.facts HK.out.rd; obtain ⟨d0, d1, d2, d3, g0, g1, g2, g3⟩ := CmAt.facts HK.out.cm; obtain ⟨z0, z1, z2, z3, y0, y1, y2, y3⟩ := CmAt.facts HK.out.rs) | (go_at_call 131; refine (HEN.out _).mono ?_; rintro e w9 ⟨rfl, hb⟩; clear c0 c1 c2 c3 c4 f0 f1 f2 f3 f4 d0 d1 d2 d3 g0 g1 g2 g3 z0 z1 z2 z3 y0 y1 y2 y3; replace HK := Lib.hid (HK.out.bel hb); clear hb; obtain ⟨c0, c1, c2, c3, c4, f0, f1, f2, f3, f4⟩ := RdAt.facts HK.out.rd; obtain ⟨d0, d1, d2, d3, g0, g1, g2, g3⟩ := CmAt.facts HK.out.cm; obtain ⟨z0, z1, z2, z3, y0, y1, y2, y3⟩ := CmAt.facts HK.out.rs) | (go_at_call 136; refine (HIS.out _ HK.out.rd).mono ?_; rintro e w9 ⟨rfl, hb⟩; clear c0 c1 c2 c3 c4 f0 f1 f2 f3 f4 d0 d1 d2 d3 g0 g1 g2 g3 z0 z1 z2 z3 y0 y1 y2 y3; replace HK := Lib.hid (HK.out.bel hb); clear hb; obtain ⟨c0, c1, c2, c3, c4, f0, f1, f2, f3, f4⟩ := RdAt.facts HK.out.rd; obtain ⟨d0, d1, d2, d3, g0, g1, g2, g3⟩ := CmAt.facts HK.out.cm; obtain ⟨z0, z1, z2, z3, y0, y1, y2, y3⟩ := CmAt.facts HK.out.rs))
        go_cut [3] from 80 to 84 (fun v wx => v = .bool false ∧ (∃ c : Cm, CmAt wx r c) ∧ RdAt wx b s ⟨k, line || ln, p, 507⟩ ∧ But b w wx)
        case first =>
          have HKD := Lib.hid HK.out.drew
          clear HF HPB HPG HPGT HNX HEN HIS
          go_region_with (go_at_call 138; refine (stop_any b s _ _ _ _ HKD.out.rd).mono ?_; rintro e w9 ⟨rfl, hx9, hb9⟩; clear c0 c1 c2 c3 c4 f0 f1 f2 f3 f4 d0 d1 d2 d3 g0 g1 g2 g3 z0 z1 z2 z3 y0 y1 y2 y3; replace HKD := Lib.hid (HKD.out.step hx9 hb9 hle); clear hx9 hb9; obtain ⟨z0, z1, z2, z3, y0, y1, y2, y3⟩ := CmAt.facts HKD.out.rs; obtain ⟨d0, d1, d2, d3, g0, g1, g2, g3⟩ := CmAt.facts HKD.out.cm)
          all_goals go_wp2_with fail
          all_goals go_meet
          all_goals exact ⟨rfl, ⟨_, CmAt.lay HKD.out.rs⟩, HKD.out.ret⟩
        case rest =>
          obtain ⟨rfl, ⟨cc, hcc⟩, hx9, hb9⟩ := hcut
          go_wp2_with fail
          (try simp only [Exit.inBlock, Exit.then])
          refine bodyPost_ret (results_cm2 rfl _ _ _ _ rfl hcc) rfl ?_
          rw [HF.out]
          exact ⟨_, _, rfl, hx9, rfl, rfl, hb9⟩
      · by_cases hn0 : n < 0
        · have HF := Lib.hid (show cmt true (s.data.toList.drop (p + 2)) = .bad (k - (p + 2)) 502 by rw [HEQ.out, HST.out, if_neg hcl', if_neg h0, if_pos hn0]; simp [CmO.shift])
          clear HEQ HST hcl hcl'
          go_wp2_with (first | (go_at_call 130; refine (HNX.out _ HK.out.rd HK.out.rdy).mono ?_; rintro e w9 ⟨rfl, hb⟩; clear c0 c1 c2 c3 c4 f0 f1 f2 f3 f4 d0 d1 d2 d3 g0 g1 g2 g3 z0 z1 z2 z3 y0 y1 y2 y3; replace HK := Lib.hid (HK.out.bel hb); clear hb; obtain ⟨c0, c1, c2, c3, c4, f0, f1, f2, f3, f4⟩ := RdAt.facts HK.out.rd; obtain ⟨d0, d1, d2, d3, g0, g1, g2, g3⟩ := CmAt.facts HK.out.cm; obtain ⟨z0, z1, z2, z3, y0, y1, y2, y3⟩ := CmAt.facts HK.out.rs) | (go_at_call 131; refine (HEN.out _).mono ?_; rintro e w9 ⟨rfl, hb⟩; clear c0 c1 c2 c3 c4 f0 f1 f2 f3 f4 d0 d1 d2 d3 g0 g1 g2 g3 z0 z1 z2 z3 y0 y1 y2 y3; replace HK := Lib.hid (HK.out.bel hb); clear hb; obtain ⟨c0, c1, c2, c3, c4, f0, f1, f2, f3, f4⟩ := RdAt.facts HK.out.rd; obtain ⟨d0, d1, d2, d3, g0, g1, g2, g3⟩ := CmAt.facts HK.out.cm; obtain ⟨z0, z1, z2, z3, y0, y1, y2, y3⟩ := CmAt.facts HK.out.rs) | (go_at_call 136; refine (HIS.out _ HK.out.rd).mono ?_; rintro e w9 ⟨rfl, hb⟩; clear c0 c1 c2 c3 c4 f0 f1 f2 f3 f4 d0 d1 d2 d3 g0 g1 g2 g3 z0 z1 z2 z3 y0 y1 y2 y3; replace HK := Lib.hid (HK.out.bel hb); clear hb; obtain ⟨c0, c1, c2, c3, c4, f0, f1, f2, f3, f4⟩ := RdAt.facts HK.out.rd; obtain ⟨d0, d1, d2, d3, g0, g1, g2, g3⟩ := CmAt.facts HK.out.cm; obtain ⟨z0, z1, z2, z3, y0, y1, y2, y3⟩ := CmAt.facts HK.out.rs) | (go_at_call 135; refine (HPB.out _ HK.out.rd HK.out.rdy hn0).mono ?_; rintro e w9 ⟨rfl, hx9, hb9⟩; clear c0 c1 c2 c3 c4 f0 f1 f2 f3 f4 d0 d1 d2 d3 g0 g1 g2 g3 z0 z1 z2 z3 y0 y1 y2 y3; replace HK := Lib.hid (HK.out.step hx9 hb9 hle); clear hx9 hb9; obtain ⟨c0, c1, c2, c3, c4, f0, f1, f2, f3, f4⟩ := RdAt.facts HK.out.rd; obtain ⟨d0, d1, d2, d3, g0, g1, g2, g3⟩ := CmAt.facts HK.out.cm; obtain ⟨z0, z1, z2, z3, y0, y1, y2, y3⟩ := CmAt.facts HK.out.rs))
          (try simp only [Exit.inBlock, Exit.then])
          refine bodyPost_ret (results_cm2 rfl _ _ _ _ rfl (CmAt.lay HK.out.rs)) rfl ?_
          rw [HF.out]
          exact ⟨_, _, rfl, HK.out.ret.1, rfl, by simp; omega, HK.out.ret.2⟩
        · obtain ⟨m, rfl, hm1, hm2, hm3⟩ := HPZ.out (by omega)
          have hm0 : 0 < m := by omega
          have hpt : decide (0 < m) = true := decide_eq_true hm0
          have HN := Lib.hid (show cmt true (s.data.toList.drop (p + 2)) = (cmt true (s.data.toList.drop (k + m))).shift (k + m - (p + 2)) (ln || ed) by rw [HEQ.out, HST.out, if_neg hcl', if_neg h0, if_neg hn0, if_neg (fun h => by cases h.1), Int.toNat_natCast, HDD.out, shift_shift, show k - (p + 2) + m = k + m - (p + 2) by omega])
          clear HEQ HST hcl hcl' hm3
          cases hed : ed with
          | true =>
            rw [hed] at HEN HN
            subst hed
            have hpg2 := fun W hx hr => HPGT.out W m hx hr rfl
            rw [hpt] at hpg2
            have HPG2 := Lib.hid hpg2
            clear hpg2 hpt
            go_upto_region 20 with (first | (go_at_call 130; refine (HNX.out _ HK.out.rd HK.out.rdy).mono ?_; rintro e w9 ⟨rfl, hb⟩; clear c0 c1 c2 c3 c4 f0 f1 f2 f3 f4 d0 d1 d2 d3 g0 g1 g2 g3 z0 z1 z2 z3 y0 y1 y2 y3; replace HK := Lib.hid (HK.out.bel hb); clear hb; obtain ⟨c0, c1, c2, c3, c4, f0, f1, f2, f3, f4⟩ := RdAt.facts HK.out.rd; obtain ⟨d0, d1, d2, d3, g0, g1, g2, g3⟩ := CmAt.facts HK.out.cm; obtain ⟨z0, z1, z2, z3, y0, y1, y2, y3⟩ := CmAt.facts HK.out.rs) | (go_at_call 131; refine (HEN.out _).mono ?_; rintro e w9 ⟨rfl, hb⟩; clear c0 c1 c2 c3 c4 f0 f1 f2 f3 f4 d0 d1 d2 d3 g0 g1 g2 g3 z0 z1 z2 z3 y0 y1 y2 y3; replace HK := Lib.hid (HK.out.bel hb); clear hb; obtain ⟨c0, c1, c2, c3, c4, f0, f1, f2, f3, f4⟩ := RdAt.facts HK.out.rd; obtain ⟨d0, d1, d2, d3, g0, g1, g2, g3⟩ := CmAt.facts HK.out.cm; obtain ⟨z0, z1, z2, z3, y0, y1, y2, y3⟩ := CmAt.facts HK.out.rs) | (go_at_call 136; refine (HIS.out _ HK.out.rd).mono ?_; rintro e w9 ⟨rfl, hb⟩; clear c0 c1 c2 c3 c4 f0 f1 f2 f3 f4 d0 d1 d2 d3 g0 g1 g2 g3 z0 z1 z2 z3 y0 y1 y2 y3; replace HK := Lib.hid (HK.out.bel hb); clear hb; obtain ⟨c0, c1, c2, c3, c4, f0, f1, f2, f3, f4⟩ := RdAt.facts HK.out.rd; obtain ⟨d0, d1, d2, d3, g0, g1, g2, g3⟩ := CmAt.facts HK.out.cm; obtain ⟨z0, z1, z2, z3, y0, y1, y2, y3⟩ := CmAt.facts HK.out.rs))
            have hkc := HK.out.setRd (y := ⟨k, true, fl, cd⟩) 2 (.bool true) rfl hle
            go_upto_region 21 with fail
            clear c0 c1 c2 c3 c4 f0 f1 f2 f3 f4 d0 d1 d2 d3 g0 g1 g2 g3 z0 z1 z2 z3 y0 y1 y2 y3
            clear HK
            generalize World.setCell _ _ _ = w6 at *
            have HK := Lib.hid hkc
            clear hkc
            obtain ⟨c0, c1, c2, c3, c4, f0, f1, f2, f3, f4⟩ := RdAt.facts HK.out.rd; obtain ⟨d0, d1, d2, d3, g0, g1, g2, g3⟩ := CmAt.facts HK.out.cm; obtain ⟨z0, z1, z2, z3, y0, y1, y2, y3⟩ := CmAt.facts HK.out.rs
            go_wp2_with (go_at_call 135; refine (HPG2.out _ HK.out.rd HK.out.rdy).mono ?_; rintro e w9 ⟨rfl, hx9, hb9⟩; clear c0 c1 c2 c3 c4 f0 f1 f2 f3 f4 d0 d1 d2 d3 g0 g1 g2 g3 z0 z1 z2 z3 y0 y1 y2 y3; replace HK := Lib.hid (HK.out.step hx9 hb9 (show k + m ≤ s.size by omega)); clear hx9 hb9; obtain ⟨c0, c1, c2, c3, c4, f0, f1, f2, f3, f4⟩ := RdAt.facts HK.out.rd; obtain ⟨d0, d1, d2, d3, g0, g1, g2, g3⟩ := CmAt.facts HK.out.cm; obtain ⟨z0, z1, z2, z3, y0, y1, y2, y3⟩ := CmAt.facts HK.out.rs)
            go_roundw
            case rel => exact ⟨k + m, ln || true, by omega, by rw [Bool.or_true, Bool.or_true]; exact HK.out, HN.out⟩
            case measure => rw [HK.out.rd.pos, HPOS.out]; simp only; omega
          | false =>
            rw [hed] at HEN HN
            subst hed
            have hpg2 := fun W hx hr => HPG.out W m hx hr rfl
            rw [hpt] at hpg2
            have HPG2 := Lib.hid hpg2
            clear hpg2 hpt
            go_wp2_with (first | (go_at_call 130; refine (HNX.out _ HK.out.rd HK.out.rdy).mono ?_; rintro e w9 ⟨rfl, hb⟩; clear c0 c1 c2 c3 c4 f0 f1 f2 f3 f4 d0 d1 d2 d3 g0 g1 g2 g3 z0 z1 z2 z3 y0 y1 y2 y3; replace HK := Lib.hid (HK.out.bel hb); clear hb; obtain ⟨c0, c1, c2, c3, c4, f0, f1, f2, f3, f4⟩ := RdAt.facts HK.out.rd; obtain ⟨d0, d1, d2, d3, g0, g1, g2, g3⟩ := CmAt.facts HK.out.cm; obtain ⟨z0, z1, z2, z3, y0, y1, y2, y3⟩ := CmAt.facts HK.out.rs) | (go_at_call 131; refine (HEN.out _).mono ?_; rintro e w9 ⟨rfl, hb⟩; clear c0 c1 c2 c3 c4 f0 f1 f2 f3 f4 d0 d1 d2 d3 g0 g1 g2 g3 z0 z1 z2 z3 y0 y1 y2 y3; replace HK := Lib.hid (HK.out.bel hb); clear hb; obtain ⟨c0, c1, c2, c3, c4, f0, f1, f2, f3, f4⟩ := RdAt.facts HK.out.rd; obtain ⟨d0, d1, d2, d3, g0, g1, g2, g3⟩ := CmAt.facts HK.out.cm; obtain ⟨z0, z1, z2, z3, y0, y1, y2, y3⟩ := CmAt.facts HK.out.rs) | (go_at_call 136; refine (HIS.out _ HK.out.rd).mono ?_; rintro e w9 ⟨rfl, hb⟩; clear c0 c1 c2 c3 c4 f0 f1 f2 f3 f4 d0 d1 d2 d3 g0 g1 g2 g3 z0 z1 z2 z3 y0 y1 y2 y3; replace HK := Lib.hid (HK.out.bel hb); clear hb; obtain ⟨c0, c1, c2, c3, c4, f0, f1, f2, f3, f4⟩ := RdAt.facts HK.out.rd; obtain ⟨d0, d1, d2, d3, g0, g1, g2, g3⟩ := CmAt.facts HK.out.cm; obtain ⟨z0, z1, z2, z3, y0, y1, y2, y3⟩ := CmAt.facts HK.out.rs) | (go_at_call 135; refine (HPG2.out _ HK.out.rd HK.out.rdy).mono ?_; rintro e w9 ⟨rfl, hx9, hb9⟩; clear c0 c1 c2 c3 c4 f0 f1 f2 f3 f4 d0 d1 d2 d3 g0 g1 g2 g3 z0 z1 z2 z3 y0 y1 y2 y3; replace HK := Lib.hid (HK.out.step hx9 hb9 (show k + m ≤ s.size by omega)); clear hx9 hb9; obtain ⟨c0, c1, c2, c3, c4, f0, f1, f2, f3, f4⟩ := RdAt.facts HK.out.rd; obtain ⟨d0, d1, d2, d3, g0, g1, g2, g3⟩ := CmAt.facts HK.out.cm; obtain ⟨z0, z1, z2, z3, y0, y1, y2, y3⟩ := CmAt.facts HK.out.rs))
            go_roundw
            case rel => exact ⟨k + m, ln || false, by omega, by rw [Bool.or_false]; exact HK.out, HN.out⟩
            case measure => rw [HK.out.rd.pos, HPOS.out]; simp only; omega
set_option maxRecDepth 20000 in
set_option maxHeartbeats 4000000 in
theorem comment_3 (b : Nat) (s : ByteArray) (x : Rd) (w : World) (hx : RdAt w b s x) (hr : Ready b w) (hs : s.size ≤ 16777216) (hp : x.at' ≤ s.size) (h1 : Lib.hasPrefix (s.data.toList.drop x.at') [47, 47] = false) (h2 : Lib.hasPrefix (s.data.toList.drop x.at') [47, 42] = false) (h3 : x.at' = 0) (h4 : Lib.hasPrefix (s.data.toList.drop x.at') [35, 33] = true) :
    Calls Tryz.prog 133 #[.pointer (some ⟨b, 0, none⟩)] w fun e w' => CmPost b s x.at' x.line x.fail x.code 3 w (cmt false (s.data.toList.drop (x.at' + 2))) e w' := by
  obtain ⟨p, line, fl, cd⟩ := x
  simp only at hp h1 h2 h3 h4 ⊢
  have H3 := Lib.hid h3
  clear h3
  have hk := cst_start hx hr hp ⟨0, ⟨#[]⟩, p, 0⟩
  have hbl := hx.lt
  obtain ⟨c0, c1, c2, c3, c4, f0, f1, f2, f3, f4⟩ := RdAt.facts hx
  have c0' : (w.alloc (.cells (Cm.cells ⟨0, ⟨#[]⟩, 0, 0⟩) 127)).cell? ⟨b, 0, none⟩ = some (.int .i64 p) := ((hx.bel (bel_alloc (Below.refl _ _) _)).cell 0)
  clear hx hr
  go_enter Tryz.func133, Tryz.ntmps133
  go_upto_region 3 with fail
  have e0 : ((w.alloc (.cells (Cm.cells ⟨0, ⟨#[]⟩, 0, 0⟩) 127)).alloc (.cells (Cm.cells ⟨0, ⟨#[]⟩, p, 0⟩) 127)) = ((w.alloc (.cells #[.int .i64 0, .string ⟨#[]⟩, .int .i64 0, .int .i64 0] 127)).alloc (.cells #[.int .i64 0, .string ⟨#[]⟩, .int .i64 p, .int .i64 0] 127)) := rfl
  rw [e0] at hk
  generalize ((w.alloc (.cells #[.int .i64 0, .string ⟨#[]⟩, .int .i64 0, .int .i64 0] 127)).alloc (.cells #[.int .i64 0, .string ⟨#[]⟩, .int .i64 p, .int .i64 0] 127)) = w1 at *
  clear c0 c1 c2 c3 c4 f0 f1 f2 f3 f4 e0 c0'
  have HBL := Lib.hid hbl
  have HK := Lib.hid hk
  clear hk hbl
  generalize hgg : w.heap.size + 1 = g at *
  clear hgg
  generalize hrr : w.heap.size = r at *
  rw [← hrr] at HBL
  clear hrr
  obtain ⟨c0, c1, c2, c3, c4, f0, f1, f2, f3, f4⟩ := RdAt.facts HK.out.rd; obtain ⟨d0, d1, d2, d3, g0, g1, g2, g3⟩ := CmAt.facts HK.out.cm; obtain ⟨z0, z1, z2, z3, y0, y1, y2, y3⟩ := CmAt.facts HK.out.rs
  have hpz : ((p : Int) == 0) = true := by rw [beq_iff_eq]; have := H3.out; omega
  clear H3
  have hl2 := prefix_len h4
  rw [List.length_drop, ofl] at hl2
  have hp2 : p + 2 ≤ s.size := by simp at hl2; omega
  clear hl2
  go_upto_region 8 with (go_at_call 136; refine (is_lit b s _ _ _ HK.out.rd HK.out.le).mono ?_; rintro e w9 ⟨rfl, hb⟩; clear c0 c1 c2 c3 c4 f0 f1 f2 f3 f4 d0 d1 d2 d3 g0 g1 g2 g3 z0 z1 z2 z3 y0 y1 y2 y3; replace HK := Lib.hid (HK.out.bel hb); clear hb; obtain ⟨c0, c1, c2, c3, c4, f0, f1, f2, f3, f4⟩ := RdAt.facts HK.out.rd; obtain ⟨d0, d1, d2, d3, g0, g1, g2, g3⟩ := CmAt.facts HK.out.cm; obtain ⟨z0, z1, z2, z3, y0, y1, y2, y3⟩ := CmAt.facts HK.out.rs)
  have hk := HK.out.setCm HBL.out (d := ⟨3, ⟨#[]⟩, p, 0⟩) 0 (.int .i64 3) rfl
  go_upto_region 9 with fail
  clear c0 c1 c2 c3 c4 f0 f1 f2 f3 f4 d0 d1 d2 d3 g0 g1 g2 g3 z0 z1 z2 z3 y0 y1 y2 y3
  clear HK
  generalize World.setCell _ _ _ = w3 at *
  have HK := Lib.hid hk
  clear hk
  obtain ⟨c0, c1, c2, c3, c4, f0, f1, f2, f3, f4⟩ := RdAt.facts HK.out.rd; obtain ⟨d0, d1, d2, d3, g0, g1, g2, g3⟩ := CmAt.facts HK.out.cm; obtain ⟨z0, z1, z2, z3, y0, y1, y2, y3⟩ := CmAt.facts HK.out.rs
  go_wp2_with fail
  have hk := HK.out.setRd (y := ⟨p + 2, line, fl, cd⟩) 0 (.int .i64 ((p : Int) + 2)) rfl hp2
  clear c0 c1 c2 c3 c4 f0 f1 f2 f3 f4 d0 d1 d2 d3 g0 g1 g2 g3 z0 z1 z2 z3 y0 y1 y2 y3
  clear HK
  generalize World.setCell _ _ _ = w4 at *
  have HK := Lib.hid hk
  clear hk h1 h2 h4
  go_loopw [5, 6, 7] (fun _ _ _ wr => CmRel b g r s w p line fl cd 3 false wr) (fun _ _ _ wr => s.size - rdPos wr b)
  case atStart =>
    refine ⟨p + 2, false, Nat.le_refl _, by rw [Bool.or_false]; exact HK.out, ?_⟩
    rw [Nat.sub_self]
    cases cmt false (s.data.toList.drop (p + 2)) <;> simp [CmO.shift]
  case round =>
    obtain ⟨k, ln, hk, hcst, heq⟩ := hrel
    have hle := hcst.le
    simp only at hle
    have HPOS := Lib.hid hcst.rd.pos
    have hst := cmt_step false (s.data.toList.drop k)
    have hnx := fun W hx hr => rnext_any b s ⟨k, line || ln, fl, cd⟩ W hx hr hle
    have hpb := fun W hx hr hn => pass_bad b s ⟨k, line || ln, fl, cd⟩ W hx hr hle hn
    have hpg := fun W m hx hr hn => pass_good b s ⟨k, line || ln, fl, cd⟩ W m hx hr hs hle hn
    have hpgt := fun W m hx hr hn => pass_good b s ⟨k, true, fl, cd⟩ W m hx hr hs hle hn
    have hge := nx_ge (s.data.toList.drop k)
    have hn1 := nx_star (s.data.toList.drop k)
    have hpz := fun h => nx_pos (l := s.data.toList.drop k) h
    rw [List.length_drop, ofl] at hpz
    have hdd := fun m : Nat => (List.drop_drop (i := m) (j := k) (l := s.data.toList))
    have hends := fun W => ends_any (nx (s.data.toList.drop k)).1 W
    clear HK
    have HK := Lib.hid hcst
    clear hcst
    simp only at hnx hpb hpg hpgt
    generalize he : endsR (nx (s.data.toList.drop k)).1 = ed at *
    generalize hc : (nx (s.data.toList.drop k)).1 = c at *
    generalize hn : (nx (s.data.toList.drop k)).2 = n at *
    clear he hc hn
    have HNX := Lib.hid hnx
    have HPB := Lib.hid hpb
    have HPG := Lib.hid hpg
    have HPGT := Lib.hid hpgt
    have HPZ := Lib.hid hpz
    have HEN := Lib.hid hends
    have HEQ := Lib.hid heq
    have HST := Lib.hid hst
    have HDD := Lib.hid hdd
    have HN1 := Lib.hid hn1
    clear hnx hpb hpg hpgt hpz hends heq hst hdd hn1
    obtain ⟨c0, c1, c2, c3, c4, f0, f1, f2, f3, f4⟩ := RdAt.facts HK.out.rd; obtain ⟨d0, d1, d2, d3, g0, g1, g2, g3⟩ := CmAt.facts HK.out.cm; obtain ⟨z0, z1, z2, z3, y0, y1, y2, y3⟩ := CmAt.facts HK.out.rs
    by_cases h0 : n = 0
    · have HF := Lib.hid (show cmt false (s.data.toList.drop (p + 2)) = .fine (k - (p + 2)) ln by rw [HEQ.out, HST.out, if_neg (fun h => by cases h.1), if_pos h0, if_neg (by decide)]; simp [CmO.shift])
      clear HEQ HST
      go_upto_region 22 with (go_at_call 130; refine (HNX.out _ HK.out.rd HK.out.rdy).mono ?_; rintro e w9 ⟨rfl, hb⟩; clear c0 c1 c2 c3 c4 f0 f1 f2 f3 f4 d0 d1 d2 d3 g0 g1 g2 g3 z0 z1 z2 z3 y0 y1 y2 y3; replace HK := Lib.hid (HK.out.bel hb); clear hb; obtain ⟨c0, c1, c2, c3, c4, f0, f1, f2, f3, f4⟩ := RdAt.facts HK.out.rd; obtain ⟨d0, d1, d2, d3, g0, g1, g2, g3⟩ := CmAt.facts HK.out.cm; obtain ⟨z0, z1, z2, z3, y0, y1, y2, y3⟩ := CmAt.facts HK.out.rs)
      go_upto_region 23 with fail
      have hkc := HK.out.setCm HBL.out (d := ⟨3, ⟨#[]⟩, p, (k : Int)⟩) 3 (.int .i64 ((k : Int))) rfl
      clear c0 c1 c2 c3 c4 f0 f1 f2 f3 f4 d0 d1 d2 d3 g0 g1 g2 g3 z0 z1 z2 z3 y0 y1 y2 y3
      clear HK
      generalize World.setCell _ _ _ = w5 at *
      have HK := Lib.hid hkc
      clear hkc
      obtain ⟨c0, c1, c2, c3, c4, f0, f1, f2, f3, f4⟩ := RdAt.facts HK.out.rd; obtain ⟨d0, d1, d2, d3, g0, g1, g2, g3⟩ := CmAt.facts HK.out.cm; obtain ⟨z0, z1, z2, z3, y0, y1, y2, y3⟩ := CmAt.facts HK.out.rs
      go_cut [113] from 105 to 114 (fun _ wx => Cst b g r s w ⟨k, line || ln, fl, cd⟩ ⟨3, s.extract p (k), p, (k : Int)⟩ wx)
      case first =>
        have hkd := (HK.out.setCm HBL.out (d := ⟨3, s.extract p (k), p, (k : Int)⟩) 1 (.string (s.extract p (k))) rfl).drew
        go_region
        all_goals go_wp2_with fail
        all_goals go_meet
        all_goals exact hkd
      case rest =>
        clear c0 c1 c2 c3 c4 f0 f1 f2 f3 f4 d0 d1 d2 d3 g0 g1 g2 g3 z0 z1 z2 z3 y0 y1 y2 y3
        clear HK
        have HK := Lib.hid hcut
        clear hcut
        obtain ⟨c0, c1, c2, c3, c4, f0, f1, f2, f3, f4⟩ := RdAt.facts HK.out.rd; obtain ⟨d0, d1, d2, d3, g0, g1, g2, g3⟩ := CmAt.facts HK.out.cm; obtain ⟨z0, z1, z2, z3, y0, y1, y2, y3⟩ := CmAt.facts HK.out.rs
        go_wp2_with fail
        (try simp only [Exit.inBlock, Exit.then])
        refine bodyPost_ret (results_cm2 rfl _ _ _ _ rfl (CmAt.lay HK.out.rs)) rfl ?_
        have hkn : p + 2 + (k - (p + 2)) = k := by omega
        rw [HF.out]
        unfold CmPost
        simp only [hkn]
        exact ⟨rfl, HK.out.ret⟩
    · by_cases hn0 : n < 0
      · have HF := Lib.hid (show cmt false (s.data.toList.drop (p + 2)) = .bad (k - (p + 2)) 502 by rw [HEQ.out, HST.out, if_neg (fun h => by cases h.1), if_neg h0, if_pos hn0]; simp [CmO.shift])
        clear HEQ HST
        go_wp2_with (first | (go_at_call 130; refine (HNX.out _ HK.out.rd HK.out.rdy).mono ?_; rintro e w9 ⟨rfl, hb⟩; clear c0 c1 c2 c3 c4 f0 f1 f2 f3 f4 d0 d1 d2 d3 g0 g1 g2 g3 z0 z1 z2 z3 y0 y1 y2 y3; replace HK := Lib.hid (HK.out.bel hb); clear hb; obtain ⟨c0, c1, c2, c3, c4, f0, f1, f2, f3, f4⟩ := RdAt.facts HK.out.rd; obtain ⟨d0, d1, d2, d3, g0, g1, g2, g3⟩ := CmAt.facts HK.out.cm; obtain ⟨z0, z1, z2, z3, y0, y1, y2, y3⟩ := CmAt.facts HK.out.rs) | (go_at_call 135; refine (HPB.out _ HK.out.rd HK.out.rdy hn0).mono ?_; rintro e w9 ⟨rfl, hx9, hb9⟩; clear c0 c1 c2 c3 c4 f0 f1 f2 f3 f4 d0 d1 d2 d3 g0 g1 g2 g3 z0 z1 z2 z3 y0 y1 y2 y3; replace HK := Lib.hid (HK.out.step hx9 hb9 hle); clear hx9 hb9; obtain ⟨c0, c1, c2, c3, c4, f0, f1, f2, f3, f4⟩ := RdAt.facts HK.out.rd; obtain ⟨d0, d1, d2, d3, g0, g1, g2, g3⟩ := CmAt.facts HK.out.cm; obtain ⟨z0, z1, z2, z3, y0, y1, y2, y3⟩ := CmAt.facts HK.out.rs))
        (try simp only [Exit.inBlock, Exit.then])
        refine bodyPost_ret (results_cm2 rfl _ _ _ _ rfl (CmAt.lay HK.out.rs)) rfl ?_
        rw [HF.out]
        exact ⟨_, _, rfl, HK.out.ret.1, rfl, by simp; omega, HK.out.ret.2⟩
      · obtain ⟨m, rfl, hm1, hm2, hm3⟩ := HPZ.out (by omega)
        have hm0 : 0 < m := by omega
        cases hed : ed with
        | true =>
          have HF := Lib.hid (show cmt false (s.data.toList.drop (p + 2)) = .fine (k - (p + 2)) ln by rw [HEQ.out, HST.out, if_neg (fun h => by cases h.1), if_neg h0, if_neg hn0, if_pos ⟨rfl, hed⟩]; simp [CmO.shift])
          rw [hed] at HEN
          clear HEQ HST hm3
          subst hed
          go_upto_region 22 with (first | (go_at_call 130; refine (HNX.out _ HK.out.rd HK.out.rdy).mono ?_; rintro e w9 ⟨rfl, hb⟩; clear c0 c1 c2 c3 c4 f0 f1 f2 f3 f4 d0 d1 d2 d3 g0 g1 g2 g3 z0 z1 z2 z3 y0 y1 y2 y3; replace HK := Lib.hid (HK.out.bel hb); clear hb; obtain ⟨c0, c1, c2, c3, c4, f0, f1, f2, f3, f4⟩ := RdAt.facts HK.out.rd; obtain ⟨d0, d1, d2, d3, g0, g1, g2, g3⟩ := CmAt.facts HK.out.cm; obtain ⟨z0, z1, z2, z3, y0, y1, y2, y3⟩ := CmAt.facts HK.out.rs) | (go_at_call 131; refine (HEN.out _).mono ?_; rintro e w9 ⟨rfl, hb⟩; clear c0 c1 c2 c3 c4 f0 f1 f2 f3 f4 d0 d1 d2 d3 g0 g1 g2 g3 z0 z1 z2 z3 y0 y1 y2 y3; replace HK := Lib.hid (HK.out.bel hb); clear hb; obtain ⟨c0, c1, c2, c3, c4, f0, f1, f2, f3, f4⟩ := RdAt.facts HK.out.rd; obtain ⟨d0, d1, d2, d3, g0, g1, g2, g3⟩ := CmAt.facts HK.out.cm; obtain ⟨z0, z1, z2, z3, y0, y1, y2, y3⟩ := CmAt.facts HK.out.rs))
          go_upto_region 23 with fail
          have hkc := HK.out.setCm HBL.out (d := ⟨3, ⟨#[]⟩, p, (k : Int)⟩) 3 (.int .i64 ((k : Int))) rfl
          clear c0 c1 c2 c3 c4 f0 f1 f2 f3 f4 d0 d1 d2 d3 g0 g1 g2 g3 z0 z1 z2 z3 y0 y1 y2 y3
          clear HK
          generalize World.setCell _ _ _ = w5 at *
          have HK := Lib.hid hkc
          clear hkc
          obtain ⟨c0, c1, c2, c3, c4, f0, f1, f2, f3, f4⟩ := RdAt.facts HK.out.rd; obtain ⟨d0, d1, d2, d3, g0, g1, g2, g3⟩ := CmAt.facts HK.out.cm; obtain ⟨z0, z1, z2, z3, y0, y1, y2, y3⟩ := CmAt.facts HK.out.rs
          go_cut [113] from 105 to 114 (fun _ wx => Cst b g r s w ⟨k, line || ln, fl, cd⟩ ⟨3, s.extract p (k), p, (k : Int)⟩ wx)
          case first =>
            have hkd := (HK.out.setCm HBL.out (d := ⟨3, s.extract p (k), p, (k : Int)⟩) 1 (.string (s.extract p (k))) rfl).drew
            go_region
            all_goals go_wp2_with fail
            all_goals go_meet
            all_goals exact hkd
          case rest =>
            clear c0 c1 c2 c3 c4 f0 f1 f2 f3 f4 d0 d1 d2 d3 g0 g1 g2 g3 z0 z1 z2 z3 y0 y1 y2 y3
            clear HK
            have HK := Lib.hid hcut
            clear hcut
            obtain ⟨c0, c1, c2, c3, c4, f0, f1, f2, f3, f4⟩ := RdAt.facts HK.out.rd; obtain ⟨d0, d1, d2, d3, g0, g1, g2, g3⟩ := CmAt.facts HK.out.cm; obtain ⟨z0, z1, z2, z3, y0, y1, y2, y3⟩ := CmAt.facts HK.out.rs
            go_wp2_with fail
            (try simp only [Exit.inBlock, Exit.then])
            refine bodyPost_ret (results_cm2 rfl _ _ _ _ rfl (CmAt.lay HK.out.rs)) rfl ?_
            have hkn : p + 2 + (k - (p + 2)) = k := by omega
            rw [HF.out]
            unfold CmPost
            simp only [hkn]
            exact ⟨rfl, HK.out.ret⟩
        | false =>
          have HN := Lib.hid (show cmt false (s.data.toList.drop (p + 2)) = (cmt false (s.data.toList.drop (k + m))).shift (k + m - (p + 2)) ln by rw [HEQ.out, HST.out, if_neg (fun h => by cases h.1), if_neg h0, if_neg hn0, if_neg (fun h => by rw [hed] at h; cases h.2), Int.toNat_natCast, HDD.out, hed, shift_shift, Bool.or_false, show k - (p + 2) + m = k + m - (p + 2) by omega])
          rw [hed] at HEN
          clear HEQ HST hm3
          subst hed
          have hpt : decide (0 < m) = true := decide_eq_true hm0
          have hpg2 := fun W hx hr => HPG.out W m hx hr rfl
          rw [hpt] at hpg2
          have HPG2 := Lib.hid hpg2
          clear hpg2 hpt
          go_wp2_with (first | (go_at_call 130; refine (HNX.out _ HK.out.rd HK.out.rdy).mono ?_; rintro e w9 ⟨rfl, hb⟩; clear c0 c1 c2 c3 c4 f0 f1 f2 f3 f4 d0 d1 d2 d3 g0 g1 g2 g3 z0 z1 z2 z3 y0 y1 y2 y3; replace HK := Lib.hid (HK.out.bel hb); clear hb; obtain ⟨c0, c1, c2, c3, c4, f0, f1, f2, f3, f4⟩ := RdAt.facts HK.out.rd; obtain ⟨d0, d1, d2, d3, g0, g1, g2, g3⟩ := CmAt.facts HK.out.cm; obtain ⟨z0, z1, z2, z3, y0, y1, y2, y3⟩ := CmAt.facts HK.out.rs) | (go_at_call 131; refine (HEN.out _).mono ?_; rintro e w9 ⟨rfl, hb⟩; clear c0 c1 c2 c3 c4 f0 f1 f2 f3 f4 d0 d1 d2 d3 g0 g1 g2 g3 z0 z1 z2 z3 y0 y1 y2 y3; replace HK := Lib.hid (HK.out.bel hb); clear hb; obtain ⟨c0, c1, c2, c3, c4, f0, f1, f2, f3, f4⟩ := RdAt.facts HK.out.rd; obtain ⟨d0, d1, d2, d3, g0, g1, g2, g3⟩ := CmAt.facts HK.out.cm; obtain ⟨z0, z1, z2, z3, y0, y1, y2, y3⟩ := CmAt.facts HK.out.rs) | (go_at_call 135; refine (HPG2.out _ HK.out.rd HK.out.rdy).mono ?_; rintro e w9 ⟨rfl, hx9, hb9⟩; clear c0 c1 c2 c3 c4 f0 f1 f2 f3 f4 d0 d1 d2 d3 g0 g1 g2 g3 z0 z1 z2 z3 y0 y1 y2 y3; replace HK := Lib.hid (HK.out.step hx9 hb9 (show k + m ≤ s.size by omega)); clear hx9 hb9; obtain ⟨c0, c1, c2, c3, c4, f0, f1, f2, f3, f4⟩ := RdAt.facts HK.out.rd; obtain ⟨d0, d1, d2, d3, g0, g1, g2, g3⟩ := CmAt.facts HK.out.cm; obtain ⟨z0, z1, z2, z3, y0, y1, y2, y3⟩ := CmAt.facts HK.out.rs))
          go_roundw
          case rel => exact ⟨k + m, ln, by omega, HK.out, HN.out⟩
          case measure => rw [HK.out.rd.pos, HPOS.out]; simp only; omega
end Go.Proofs.YteejjkfmmhegmaaGreatDoor
