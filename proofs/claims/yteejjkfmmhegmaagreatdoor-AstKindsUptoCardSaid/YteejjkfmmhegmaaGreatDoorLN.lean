/- Contract of the reader's regex. Conditions as in ..LC; no fault noted before. -/
import Derived.Test.YteejjkfmmhegmaaGreatDoorLM
namespace Go.Proofs.YteejjkfmmhegmaaGreatDoor
open Go.RowKit

def RgPost (b : Nat) (s : ByteArray) (p : Nat) (line : Bool) (fl : Int) (w : World) (o : TpO) (e : Ending) (w' : World) : Prop := match o with
  | .fine n _ => e = .returned (.bool true) ∧ Tst b s w ⟨p + 1 + n, line, fl, 0⟩ w'
  | .bad off code => ∃ x' : Rd, e = .returned (.bool false) ∧ Tst b s w x' w' ∧ x'.line = line ∧ x'.fail = tpPlace p off code ∧ x'.code = code
def RgRel (b : Nat) (s : ByteArray) (p : Nat) (line : Bool) (fl : Int) (w : World) (v : Value) (wr : World) : Prop :=
  ∃ (k : Nat) (cls : Bool), p + 1 ≤ k ∧ v = .bool cls ∧ Tst b s w ⟨k, line, fl, 0⟩ wr ∧ rgx true false (s.data.toList.drop (p + 1)) = (rgx (decide (k = p + 1)) cls (s.data.toList.drop k)).shift (k - (p + 1))
set_option maxRecDepth 20000 in
set_option maxHeartbeats 4000000 in
theorem regex_any (b : Nat) (s : ByteArray) (p : Nat) (line : Bool) (fl : Int) (w : World) (hx : RdAt w b s ⟨p, line, fl, 0⟩) (hr : Ready b w) (hs : s.size ≤ 16777216) (hp : p < s.size) :
    Calls Tryz.prog 144 #[.pointer (some ⟨b, 0, none⟩)] w fun e w' => RgPost b s p line fl w (rgx true false (s.data.toList.drop (p + 1))) e w' := by
  have hk0 : Tst b s w ⟨p, line, fl, 0⟩ w := ⟨hx, But.refl _ _, hr, Nat.le_of_lt hp⟩
  have hk := hk0.setRd (y := ⟨p + 1, line, fl, 0⟩) 0 (.int .i64 ((p : Int) + 1)) rfl (show p + 1 ≤ s.size by omega)
  obtain ⟨c0, c1, c2, c3, c4, f0, f1, f2, f3, f4⟩ := RdAt.facts hx
  clear hx hr
  go_enter Tryz.func144, Tryz.ntmps144
  go_wp2
  go_loopw [2, 4, 5, 6, 7, 8] (fun _ v _ _ _ _ wr => RgRel b s p line fl w v wr) (fun _ _ _ _ _ _ wr => s.size - rdPos wr b)
  case atStart => exact ⟨p + 1, false, Nat.le_refl _, rfl, hk, by rw [Nat.sub_self, TpO.shift_zero, decide_eq_true rfl]⟩
  case round =>
    obtain ⟨k, cls, hpk, rfl, hst, heq⟩ := hrel
    have hle := hst.le
    simp only at hle
    have hstep := rgx_step (decide (k = p + 1)) cls (s.data.toList.drop k)
    rw [hstep] at heq
    have HPOS := Lib.hid hst.rd.pos
    have hnx := fun W hx hr => rnext_any b s ⟨k, line, fl, 0⟩ W hx hr hle
    have hends := fun W => ends_any (nx (s.data.toList.drop k)).1 W
    have HK := Lib.hid hst
    have HEQ := Lib.hid heq
    have HNX := Lib.hid hnx
    have HEN := Lib.hid hends
    clear hst heq hstep hnx hends hk hk0 c0 c1 c2 c3 c4 f0 f1 f2 f3 f4
    simp only at HNX
    generalize he : endsR (nx (s.data.toList.drop k)).1 = ed at *
    generalize hc : (nx (s.data.toList.drop k)).1 = c at *
    generalize hn : (nx (s.data.toList.drop k)).2 = n at *
    have HE := Lib.hid he
    have HC := Lib.hid hc
    have HNN := Lib.hid hn
    have HNEG := Lib.hid (show n < 0 → c = 0 from fun h => by have := (nx_neg (l := s.data.toList.drop k) (by rw [hn]; exact h)).1; rw [this] at hc; exact hc.symm)
    have HPZ := Lib.hid (show 0 ≤ n → ∃ m : Nat, n = m ∧ m ≤ s.size - k from fun h => by
      obtain ⟨m, h1, h2, _⟩ := nx_pos (l := s.data.toList.drop k) (by rw [hn]; exact h)
      rw [List.length_drop, ofl] at h2
      exact ⟨m, hn.symm.trans h1, h2⟩)
    clear he hc hn
    obtain ⟨c0, c1, c2, c3, c4, f0, f1, f2, f3, f4⟩ := RdAt.facts HK.out.rd
    go_upto_region 5 with (go_at_call 130; refine (HNX.out _ HK.out.rd HK.out.rdy).mono ?_; rintro e w9 ⟨rfl, hb⟩; clear c0 c1 c2 c3 c4 f0 f1 f2 f3 f4; replace HK := Lib.hid (HK.out.bel hb); clear hb; obtain ⟨c0, c1, c2, c3, c4, f0, f1, f2, f3, f4⟩ := RdAt.facts HK.out.rd)
    obtain ⟨B, hB⟩ : ∃ B, B = decide (n = 0 ∨ (0 < n ∧ ed = true) ∨ (decide (k = p + 1) = true ∧ (c = 42 ∨ c = 47))) := ⟨_, rfl⟩
    have HB := Lib.hid hB
    clear hB
    go_cut [30] from 31 to 58 (fun v wx => v = .bool B ∧ Tst b s w ⟨k, line, fl, 0⟩ wx)
    case first =>
      have HN0 := Lib.hid HNEG.out
      clear HEQ HPZ HNEG HNX
      by_cases hz : n = 0
      · have HV := Lib.hid (show B = true by rw [HB.out]; exact decide_eq_true (.inl hz))
        subst hz
        go_wp2_with fail
        go_meet
        exact ⟨by rw [HV.out], HK.out⟩
      · have bz : (n == 0) = false := beq_eq_false_iff_ne.2 hz
        by_cases hn0 : 0 < n
        · cases hed : ed with
          | true =>
            have HV := Lib.hid (show B = true by rw [HB.out]; exact decide_eq_true (.inr (.inl ⟨hn0, hed⟩)))
            rw [hed] at HEN
            go_wp2_with (go_at_call 131; refine (HEN.out _).mono ?_; rintro e w9 ⟨rfl, hb⟩; clear c0 c1 c2 c3 c4 f0 f1 f2 f3 f4; replace HK := Lib.hid (HK.out.bel hb); clear hb; obtain ⟨c0, c1, c2, c3, c4, f0, f1, f2, f3, f4⟩ := RdAt.facts HK.out.rd)
            go_meet
            exact ⟨by rw [HV.out], HK.out⟩
          | false =>
            rw [hed] at HEN
            by_cases hk1 : k = p + 1
            · have b1 : (((k : Nat) : Int) == (p : Int) + 1) = true := by rw [beq_iff_eq]; omega
              by_cases h42 : c = 42
              · have HV := Lib.hid (show B = true by rw [HB.out]; exact decide_eq_true (.inr (.inr ⟨decide_eq_true hk1, .inl h42⟩)))
                clear hk1
                subst h42
                go_wp2_with (go_at_call 131; refine (HEN.out _).mono ?_; rintro e w9 ⟨rfl, hb⟩; clear c0 c1 c2 c3 c4 f0 f1 f2 f3 f4; replace HK := Lib.hid (HK.out.bel hb); clear hb; obtain ⟨c0, c1, c2, c3, c4, f0, f1, f2, f3, f4⟩ := RdAt.facts HK.out.rd)
                go_meet
                exact ⟨by rw [HV.out], HK.out⟩
              · by_cases h47 : c = 47
                · have HV := Lib.hid (show B = true by rw [HB.out]; exact decide_eq_true (.inr (.inr ⟨decide_eq_true hk1, .inr h47⟩)))
                  clear hk1
                  subst h47
                  go_wp2_with (go_at_call 131; refine (HEN.out _).mono ?_; rintro e w9 ⟨rfl, hb⟩; clear c0 c1 c2 c3 c4 f0 f1 f2 f3 f4; replace HK := Lib.hid (HK.out.bel hb); clear hb; obtain ⟨c0, c1, c2, c3, c4, f0, f1, f2, f3, f4⟩ := RdAt.facts HK.out.rd)
                  go_meet
                  exact ⟨by rw [HV.out], HK.out⟩
                · have HV := Lib.hid (show B = false by rw [HB.out]; refine decide_eq_false ?_; rintro (h | ⟨_, h⟩ | ⟨_, h | h⟩); exact hz h; rw [hed] at h; cases h; exact h42 h; exact h47 h)
                  have b2 : (c == 42) = false := by rw [beq_eq_false_iff_ne]; exact h42
                  have b3 : (c == 47) = false := by rw [beq_eq_false_iff_ne]; exact h47
                  clear hk1 h42 h47
                  go_wp2_with (go_at_call 131; refine (HEN.out _).mono ?_; rintro e w9 ⟨rfl, hb⟩; clear c0 c1 c2 c3 c4 f0 f1 f2 f3 f4; replace HK := Lib.hid (HK.out.bel hb); clear hb; obtain ⟨c0, c1, c2, c3, c4, f0, f1, f2, f3, f4⟩ := RdAt.facts HK.out.rd)
                  go_meet
                  exact ⟨by rw [HV.out], HK.out⟩
            · have HV := Lib.hid (show B = false by rw [HB.out]; refine decide_eq_false ?_; rintro (h | ⟨_, h⟩ | ⟨h, _⟩); exact hz h; rw [hed] at h; cases h; exact hk1 (of_decide_eq_true h))
              have b1 : (((k : Nat) : Int) == (p : Int) + 1) = false := by rw [beq_eq_false_iff_ne]; omega
              clear hk1
              go_wp2_with (go_at_call 131; refine (HEN.out _).mono ?_; rintro e w9 ⟨rfl, hb⟩; clear c0 c1 c2 c3 c4 f0 f1 f2 f3 f4; replace HK := Lib.hid (HK.out.bel hb); clear hb; obtain ⟨c0, c1, c2, c3, c4, f0, f1, f2, f3, f4⟩ := RdAt.facts HK.out.rd)
              go_meet
              exact ⟨by rw [HV.out], HK.out⟩
        · by_cases hk1 : k = p + 1
          · have b1 : (((k : Nat) : Int) == (p : Int) + 1) = true := by rw [beq_iff_eq]; omega
            have HV := Lib.hid (show B = false by rw [HB.out]; refine decide_eq_false ?_; rintro (h | ⟨h, _⟩ | ⟨_, h | h⟩); exact hz h; exact hn0 h; have := HN0.out (by omega); omega; have := HN0.out (by omega); omega)
            have hc0 := HN0.out (by omega)
            clear hk1
            subst hc0
            go_wp2_with fail
            go_meet
            exact ⟨by rw [HV.out], HK.out⟩
          · have b1 : (((k : Nat) : Int) == (p : Int) + 1) = false := by rw [beq_eq_false_iff_ne]; omega
            have HV := Lib.hid (show B = false by rw [HB.out]; refine decide_eq_false ?_; rintro (h | ⟨h, _⟩ | ⟨h, _⟩); exact hz h; exact hn0 h; exact hk1 (of_decide_eq_true h))
            clear hk1
            go_wp2_with fail
            go_meet
            exact ⟨by rw [HV.out], HK.out⟩
    case rest =>
      obtain ⟨rfl, hst⟩ := hcut
      clear c0 c1 c2 c3 c4 f0 f1 f2 f3 f4 HK HNX HEN HE
      have HK := Lib.hid hst
      clear hst
      obtain ⟨c0, c1, c2, c3, c4, f0, f1, f2, f3, f4⟩ := RdAt.facts HK.out.rd
      cases hb : B with
      | true =>
        have HN := Lib.hid (show rgx true false (s.data.toList.drop (p + 1)) = .bad (k - (p + 1)) 506 by rw [HEQ.out, if_pos (of_decide_eq_true (HB.out.symm.trans hb))]; rfl)
        clear HEQ HB
        subst hb
        go_wp2_with (go_at_call 138; refine (stop_any b s _ _ _ _ HK.out.rd).mono ?_; rintro e w9 ⟨rfl, hx9, hb9⟩; clear c0 c1 c2 c3 c4 f0 f1 f2 f3 f4; replace HK := Lib.hid (HK.out.step hx9 hb9 hle); clear hx9 hb9; obtain ⟨c0, c1, c2, c3, c4, f0, f1, f2, f3, f4⟩ := RdAt.facts HK.out.rd)
        go_ret
        rw [HN.out]
        exact ⟨_, rfl, HK.out, rfl, rfl, rfl⟩
      | false =>
        have hbad := of_decide_eq_false (HB.out.symm.trans hb)
        have HQ0 := Lib.hid (HEQ.out.trans (by rw [if_neg hbad]))
        have hz : n ≠ 0 := fun h => hbad (.inl h)
        clear HEQ HB hbad
        subst hb
        by_cases hneg : n < 0
        · obtain rfl := HNEG.out hneg
          have HN := Lib.hid (show rgx true false (s.data.toList.drop (p + 1)) = .bad (k - (p + 1)) 502 by
            have h := HQ0.out
            rw [if_neg (by rintro ⟨h, _⟩; omega), if_neg (by rintro ⟨h, _⟩; omega)] at h
            simp only [show escC 0 = 0 from rfl, List.drop_zero] at h
            rw [HNN.out, if_pos (by omega)] at h
            exact h)
          have HG := Lib.hid (show (nx (s.data.toList.drop k)).2 < 0 by rw [HNN.out]; exact hneg)
          clear HNN HNEG HQ0 HPZ hneg hz
          go_wp2_with (go_at_call 135; refine (pass_bad b s _ _ HK.out.rd HK.out.rdy HK.out.le HG.out).mono ?_; rintro e w9 ⟨rfl, hx9, hb9⟩; clear c0 c1 c2 c3 c4 f0 f1 f2 f3 f4; replace HK := Lib.hid (HK.out.step hx9 hb9 HK.out.le); clear hx9 hb9; obtain ⟨c0, c1, c2, c3, c4, f0, f1, f2, f3, f4⟩ := RdAt.facts HK.out.rd)
          go_ret
          rw [HN.out]
          exact ⟨_, rfl, HK.out, rfl, by unfold tpPlace; rw [if_pos rfl]; simp only; omega, rfl⟩
        · obtain ⟨m, rfl, hm1⟩ := HPZ.out (by omega)
          have hqn : k + m ≤ s.size := by omega
          have hm0 : 0 < m := by omega
          clear HNEG HPZ
          by_cases h47 : c = 47 ∧ cls = false
          · obtain ⟨rfl, rfl⟩ := h47
            have HN := Lib.hid (show rgx true false (s.data.toList.drop (p + 1)) = .fine (k - (p + 1) + (1 + partsL false (s.data.toList.drop (k + 1)))) false by rw [HQ0.out, if_pos ⟨rfl, rfl⟩, List.drop_drop]; rfl)
            have hq : k + 1 ≤ s.size := by omega
            clear HNN HQ0 HC
            go_upto_region 8 with fail
            have hk1 := HK.out.setRd (y := ⟨k + 1, line, fl, 0⟩) 0 (.int .i64 ((k : Int) + 1)) rfl hq
            go_upto_region 9 with fail
            clear c0 c1 c2 c3 c4 f0 f1 f2 f3 f4 HK
            generalize World.setCell _ _ _ = w6 at *
            have HK := Lib.hid hk1
            clear hk1
            obtain ⟨c0, c1, c2, c3, c4, f0, f1, f2, f3, f4⟩ := RdAt.facts HK.out.rd
            have HNX1 := Lib.hid (fun W hx hr => rnext_any b s ⟨k + 1, line, fl, 0⟩ W hx hr hq)
            simp only at HNX1
            go_upto_region 10 with (go_at_call 130; refine (HNX1.out _ HK.out.rd HK.out.rdy).mono ?_; rintro e w9 ⟨rfl, hb⟩; clear c0 c1 c2 c3 c4 f0 f1 f2 f3 f4; replace HK := Lib.hid (HK.out.bel hb); clear hb; obtain ⟨c0, c1, c2, c3, c4, f0, f1, f2, f3, f4⟩ := RdAt.facts HK.out.rd)
            clear HNX1
            have hst0 := HK.out
            clear c0 c1 c2 c3 c4 f0 f1 f2 f3 f4 HK
            go_loopw [7, 8] (fun cv nv wr => ∃ q : Nat, k + 1 ≤ q ∧ cv = .int .i64 (nx (s.data.toList.drop q)).1 ∧ nv = .int .i64 (nx (s.data.toList.drop q)).2 ∧ Tst b s w ⟨q, line, fl, 0⟩ wr ∧ q + partsL false (s.data.toList.drop q) = k + 1 + partsL false (s.data.toList.drop (k + 1))) (fun _ _ wr => s.size - rdPos wr b)
            case atStart => exact ⟨k + 1, Nat.le_refl _, rfl, rfl, hst0, rfl⟩
            case round =>
              clear hst0
              obtain ⟨q, hkq, rfl, rfl, hst, heq⟩ := hrel
              have HPOS2 := Lib.hid hst.rd.pos
              have hle2 := hst.le
              simp only at hle2
              have HK := Lib.hid hst
              clear hst
              cases hg : goesP false (s.data.toList.drop q) with
              | true =>
                have hy := partsL_yes hg
                obtain ⟨a, ha, ha0, hal, ha4⟩ := goesP_pos hg
                rw [List.length_drop, ofl] at hal
                rw [ha, Int.toNat_natCast, List.drop_drop] at hy
                unfold goesP at hg
                simp only [Bool.and_eq_true, Bool.or_eq_true, decide_eq_true_eq, Bool.false_eq_true, false_and, or_false] at hg
                have HNX := Lib.hid (fun W hx hr => rnext_any b s ⟨q + a, line, fl, 0⟩ W hx hr (by simp only; omega))
                simp only at HNX
                have HEQ := Lib.hid (show (q + a) + partsL false (s.data.toList.drop (q + a)) = k + 1 + partsL false (s.data.toList.drop (k + 1)) by omega)
                have hP := fun W => part_any (nx (s.data.toList.drop q)).1 W
                rw [hg.2] at hP
                rw [ha]
                generalize hc1 : (nx (s.data.toList.drop q)).1 = c1 at *
                have HP := Lib.hid hP
                have hqa : q + a ≤ s.size := by omega
                clear hg hy heq ha hc1 hP
                obtain ⟨c0, c1, c2, c3, c4, f0, f1, f2, f3, f4⟩ := RdAt.facts HK.out.rd
                go_upto_region 12 with (go_at_call 71; refine (HP.out _).mono ?_; rintro e w9 ⟨rfl, hb⟩; clear c0 c1 c2 c3 c4 f0 f1 f2 f3 f4; replace HK := Lib.hid (HK.out.bel hb); clear hb; obtain ⟨c0, c1, c2, c3, c4, f0, f1, f2, f3, f4⟩ := RdAt.facts HK.out.rd)
                go_upto_region 11 with fail
                have hk1 := HK.out.setRd (y := ⟨q + a, line, fl, 0⟩) 0 (.int .i64 ((q : Int) + (a : Int))) rfl hqa
                clear c0 c1 c2 c3 c4 f0 f1 f2 f3 f4 HK
                generalize World.setCell _ _ _ = w7 at *
                have HK := Lib.hid hk1
                clear hk1
                obtain ⟨c0, c1, c2, c3, c4, f0, f1, f2, f3, f4⟩ := RdAt.facts HK.out.rd
                go_wp2_with (go_at_call 130; refine (HNX.out _ HK.out.rd HK.out.rdy).mono ?_; rintro e w9 ⟨rfl, hb⟩; clear c0 c1 c2 c3 c4 f0 f1 f2 f3 f4; replace HK := Lib.hid (HK.out.bel hb); clear hb; obtain ⟨c0, c1, c2, c3, c4, f0, f1, f2, f3, f4⟩ := RdAt.facts HK.out.rd)
                go_roundw
                case rel => exact ⟨q + a, by omega, rfl, rfl, HK.out, HEQ.out⟩
                case measure => rw [HK.out.rd.pos, HPOS2.out]; simp only; omega
              | false =>
                have hno := partsL_no hg
                have HEQ := Lib.hid (show q = k + 1 + partsL false (s.data.toList.drop (k + 1)) by omega)
                unfold goesP at hg
                generalize (nx (s.data.toList.drop q)).1 = cc at *
                generalize (nx (s.data.toList.drop q)).2 = n1 at *
                clear hno heq
                obtain ⟨c0, c1, c2, c3, c4, f0, f1, f2, f3, f4⟩ := RdAt.facts HK.out.rd
                by_cases hn1 : 0 < n1
                · rw [decide_eq_true hn1, Bool.true_and, Bool.or_eq_false_iff] at hg
                  have hP := fun W => part_any cc W
                  rw [hg.1] at hP
                  have HP := Lib.hid hP
                  clear hP hg
                  go_wp2_with (go_at_call 71; refine (HP.out _).mono ?_; rintro e w9 ⟨rfl, hb⟩; clear c0 c1 c2 c3 c4 f0 f1 f2 f3 f4; replace HK := Lib.hid (HK.out.bel hb); clear hb; obtain ⟨c0, c1, c2, c3, c4, f0, f1, f2, f3, f4⟩ := RdAt.facts HK.out.rd)
                  go_ret
                  rw [HN.out]
                  refine ⟨rfl, ?_⟩
                  rw [show p + 1 + (k - (p + 1) + (1 + partsL false (s.data.toList.drop (k + 1)))) = q by have := HEQ.out; omega]
                  exact HK.out
                · clear hg
                  go_wp2_with fail
                  go_ret
                  rw [HN.out]
                  refine ⟨rfl, ?_⟩
                  rw [show p + 1 + (k - (p + 1) + (1 + partsL false (s.data.toList.drop (k + 1)))) = q by have := HEQ.out; omega]
                  exact HK.out
          · by_cases h92 : c = 92
            · subst h92
              clear h47
              have HQ1 := Lib.hid (show rgx true false (s.data.toList.drop (p + 1)) = _ from HQ0.out.trans (by rw [if_neg (by rintro ⟨h, _⟩; omega)]))
              have hq : k + 1 ≤ s.size := by omega
              clear HQ0 HNN HC
              have hnx := fun W hx hr => rnext_any b s ⟨k + 1, line, fl, 0⟩ W hx hr hq
              have hends := fun W => ends_any (nx (s.data.toList.drop (k + 1))).1 W
              have hq2 := HQ1.out
              simp only [show escC 92 = 1 from rfl, show clsN 92 cls = cls from rfl, List.drop_drop] at hq2
              have hpz := fun h => nx_pos (l := s.data.toList.drop (k + 1)) h
              rw [List.length_drop, ofl] at hpz
              generalize hed2 : endsR (nx (s.data.toList.drop (k + 1))).1 = e2 at *
              generalize hc2 : (nx (s.data.toList.drop (k + 1))).1 = cx at *
              generalize hn2 : (nx (s.data.toList.drop (k + 1))).2 = n2 at *
              have HQ2 := Lib.hid hq2
              have HNX1 := Lib.hid hnx
              have HEN := Lib.hid hends
              have HPZ2 := Lib.hid hpz
              have HN2 := Lib.hid hn2
              clear hq2 hnx hends hpz hed2 hc2 hn2 HQ1
              go_upto_region 19 with fail
              have hk1 := HK.out.setRd (y := ⟨k + 1, line, fl, 0⟩) 0 (.int .i64 ((k : Int) + 1)) rfl hq
              go_upto_region 20 with fail
              clear c0 c1 c2 c3 c4 f0 f1 f2 f3 f4 HK
              generalize World.setCell _ _ _ = w6 at *
              have HK := Lib.hid hk1
              clear hk1
              obtain ⟨c0, c1, c2, c3, c4, f0, f1, f2, f3, f4⟩ := RdAt.facts HK.out.rd
              go_upto_region 21 with (go_at_call 130; refine (HNX1.out _ HK.out.rd HK.out.rdy).mono ?_; rintro e w9 ⟨rfl, hb⟩; clear c0 c1 c2 c3 c4 f0 f1 f2 f3 f4; replace HK := Lib.hid (HK.out.bel hb); clear hb; obtain ⟨c0, c1, c2, c3, c4, f0, f1, f2, f3, f4⟩ := RdAt.facts HK.out.rd)
              clear HNX1
              by_cases hz2 : n2 = 0
              · have HN := Lib.hid (show rgx true false (s.data.toList.drop (p + 1)) = .bad (k - (p + 1) + 1) 506 by rw [HQ2.out, if_pos ⟨trivial, .inl hz2⟩]; rfl)
                clear HQ2 HPZ2 HN2
                subst hz2
                go_wp2_with (go_at_call 138; refine (stop_any b s _ _ _ _ HK.out.rd).mono ?_; rintro e w9 ⟨rfl, hx9, hb9⟩; clear c0 c1 c2 c3 c4 f0 f1 f2 f3 f4; replace HK := Lib.hid (HK.out.step hx9 hb9 hq); clear hx9 hb9; obtain ⟨c0, c1, c2, c3, c4, f0, f1, f2, f3, f4⟩ := RdAt.facts HK.out.rd)
                go_ret
                rw [HN.out]
                exact ⟨_, rfl, HK.out, rfl, rfl, rfl⟩
              · by_cases hpos2 : 0 < n2
                · cases he2 : e2 with
                  | true =>
                    have HN := Lib.hid (show rgx true false (s.data.toList.drop (p + 1)) = .bad (k - (p + 1) + 1) 506 by rw [HQ2.out, if_pos ⟨trivial, .inr ⟨hpos2, he2⟩⟩]; rfl)
                    rw [he2] at HEN
                    clear HQ2 HPZ2 HN2
                    go_wp2_with (first | (go_at_call 131; refine (HEN.out _).mono ?_; rintro e w9 ⟨rfl, hb⟩; clear c0 c1 c2 c3 c4 f0 f1 f2 f3 f4; replace HK := Lib.hid (HK.out.bel hb); clear hb; obtain ⟨c0, c1, c2, c3, c4, f0, f1, f2, f3, f4⟩ := RdAt.facts HK.out.rd) | (go_at_call 138; refine (stop_any b s _ _ _ _ HK.out.rd).mono ?_; rintro e w9 ⟨rfl, hx9, hb9⟩; clear c0 c1 c2 c3 c4 f0 f1 f2 f3 f4; replace HK := Lib.hid (HK.out.step hx9 hb9 hq); clear hx9 hb9; obtain ⟨c0, c1, c2, c3, c4, f0, f1, f2, f3, f4⟩ := RdAt.facts HK.out.rd))
                    go_ret
                    rw [HN.out]
                    exact ⟨_, rfl, HK.out, rfl, rfl, rfl⟩
                  | false =>
                    obtain ⟨a, rfl, ha1, _⟩ := HPZ2.out (by omega)
                    have hqn : k + 1 + a ≤ s.size := by omega
                    have HN := Lib.hid (show rgx true false (s.data.toList.drop (p + 1)) = (rgx (decide (k + 1 + a = p + 1)) cls (s.data.toList.drop (k + 1 + a))).shift (k + 1 + a - (p + 1)) by
                      rw [HQ2.out, if_neg (by rintro ⟨_, h | ⟨_, h⟩⟩; exact hz2 h; rw [he2] at h; cases h), if_neg (by omega), TpO.shift_shift, Int.toNat_natCast, decide_eq_false (show ¬ k + 1 + a = p + 1 by omega), show k - (p + 1) + (1 + a) = k + 1 + a - (p + 1) by omega, show k + (1 + a) = k + 1 + a by omega])
                    have HG := Lib.hid (show (nx (s.data.toList.drop (k + 1))).2 = (a : Int) by rw [HN2.out])
                    have hd : decide (0 < a) = true := decide_eq_true (by omega)
                    rw [he2] at HEN
                    clear HQ2 HPZ2 HN2
                    go_wp2_with (first | (go_at_call 131; refine (HEN.out _).mono ?_; rintro e w9 ⟨rfl, hb⟩; clear c0 c1 c2 c3 c4 f0 f1 f2 f3 f4; replace HK := Lib.hid (HK.out.bel hb); clear hb; obtain ⟨c0, c1, c2, c3, c4, f0, f1, f2, f3, f4⟩ := RdAt.facts HK.out.rd) | (go_at_call 135; refine (pass_good b s _ _ _ HK.out.rd HK.out.rdy hs HK.out.le HG.out).mono ?_; rintro e w9 ⟨rfl, hx9, hb9⟩; clear c0 c1 c2 c3 c4 f0 f1 f2 f3 f4; replace HK := Lib.hid (HK.out.step hx9 hb9 hqn); clear hx9 hb9; obtain ⟨c0, c1, c2, c3, c4, f0, f1, f2, f3, f4⟩ := RdAt.facts HK.out.rd))
                    go_roundw
                    case rel => exact ⟨k + 1 + a, cls, by omega, rfl, HK.out, HN.out⟩
                    case measure => rw [HK.out.rd.pos, HPOS.out]; simp only; omega
                · have HN := Lib.hid (show rgx true false (s.data.toList.drop (p + 1)) = .bad (k - (p + 1) + 1) 502 by rw [HQ2.out, if_neg (by rintro ⟨_, h | ⟨h, _⟩⟩; exact hz2 h; exact hpos2 h), if_pos (by omega)]; rfl)
                  have HG := Lib.hid (show (nx (s.data.toList.drop (k + 1))).2 < 0 by rw [HN2.out]; omega)
                  clear HQ2 HPZ2 HN2
                  go_wp2_with (go_at_call 135; refine (pass_bad b s _ _ HK.out.rd HK.out.rdy HK.out.le HG.out).mono ?_; rintro e w9 ⟨rfl, hx9, hb9⟩; clear c0 c1 c2 c3 c4 f0 f1 f2 f3 f4; replace HK := Lib.hid (HK.out.step hx9 hb9 HK.out.le); clear hx9 hb9; obtain ⟨c0, c1, c2, c3, c4, f0, f1, f2, f3, f4⟩ := RdAt.facts HK.out.rd)
                  go_ret
                  rw [HN.out]
                  exact ⟨_, rfl, HK.out, rfl, by unfold tpPlace; rw [if_pos rfl]; simp only; omega, rfl⟩
            · have HN0 := Lib.hid (show rgx true false (s.data.toList.drop (p + 1)) = (rgx (decide (k + m = p + 1)) (clsN c cls) (s.data.toList.drop (k + m))).shift (k + m - (p + 1)) by
                have h := HQ0.out
                rw [if_neg h47, if_neg (fun h => h92 h.1)] at h
                simp only [show escC c = 0 from if_neg h92, List.drop_drop, Nat.add_zero, Nat.zero_add] at h
                rw [HNN.out, if_neg (by omega), TpO.shift_shift, Int.toNat_natCast] at h
                rw [h, decide_eq_false (show ¬ k + m = p + 1 by omega), show k - (p + 1) + m = k + m - (p + 1) by omega])
              have HG := Lib.hid (show (nx (s.data.toList.drop k)).2 = (m : Int) from HNN.out)
              have hd : decide (0 < m) = true := decide_eq_true hm0
              have b92 : (c == 92) = false := by rw [beq_eq_false_iff_ne]; exact h92
              clear HNN HQ0 HC
              by_cases h91 : c = 91
              · subst h91
                have HN := Lib.hid (show rgx true false (s.data.toList.drop (p + 1)) = (rgx (decide (k + m = p + 1)) true (s.data.toList.drop (k + m))).shift (k + m - (p + 1)) from HN0.out)
                clear h47 h92 HN0 b92
                go_wp2_with (go_at_call 135; refine (pass_good b s _ _ _ HK.out.rd HK.out.rdy hs HK.out.le HG.out).mono ?_; rintro e w9 ⟨rfl, hx9, hb9⟩; clear c0 c1 c2 c3 c4 f0 f1 f2 f3 f4; replace HK := Lib.hid (HK.out.step hx9 hb9 hqn); clear hx9 hb9; obtain ⟨c0, c1, c2, c3, c4, f0, f1, f2, f3, f4⟩ := RdAt.facts HK.out.rd)
                go_roundw
                case rel => exact ⟨k + m, true, by omega, rfl, HK.out, HN.out⟩
                case measure => rw [HK.out.rd.pos, HPOS.out]; simp only; omega
              · by_cases h93 : c = 93
                · subst h93
                  have HN := Lib.hid (show rgx true false (s.data.toList.drop (p + 1)) = (rgx (decide (k + m = p + 1)) false (s.data.toList.drop (k + m))).shift (k + m - (p + 1)) from HN0.out)
                  clear h47 h92 HN0 b92 h91
                  go_wp2_with (go_at_call 135; refine (pass_good b s _ _ _ HK.out.rd HK.out.rdy hs HK.out.le HG.out).mono ?_; rintro e w9 ⟨rfl, hx9, hb9⟩; clear c0 c1 c2 c3 c4 f0 f1 f2 f3 f4; replace HK := Lib.hid (HK.out.step hx9 hb9 hqn); clear hx9 hb9; obtain ⟨c0, c1, c2, c3, c4, f0, f1, f2, f3, f4⟩ := RdAt.facts HK.out.rd)
                  go_roundw
                  case rel => exact ⟨k + m, false, by omega, rfl, HK.out, HN.out⟩
                  case measure => rw [HK.out.rd.pos, HPOS.out]; simp only; omega
                · have HN := Lib.hid (show rgx true false (s.data.toList.drop (p + 1)) = (rgx (decide (k + m = p + 1)) cls (s.data.toList.drop (k + m))).shift (k + m - (p + 1)) by rw [HN0.out]; unfold clsN; rw [if_neg h91, if_neg h93])
                  have b91 : (c == 91) = false := by rw [beq_eq_false_iff_ne]; exact h91
                  have b93 : (c == 93) = false := by rw [beq_eq_false_iff_ne]; exact h93
                  clear HN0
                  by_cases hc47 : c = 47
                  · subst hc47
                    have hcl : cls = true := by
                      cases cls with
                      | true => rfl
                      | false => exact absurd ⟨rfl, rfl⟩ h47
                    subst hcl
                    clear h47 h92 h91 h93 b91 b92 b93
                    go_wp2_with (go_at_call 135; refine (pass_good b s _ _ _ HK.out.rd HK.out.rdy hs HK.out.le HG.out).mono ?_; rintro e w9 ⟨rfl, hx9, hb9⟩; clear c0 c1 c2 c3 c4 f0 f1 f2 f3 f4; replace HK := Lib.hid (HK.out.step hx9 hb9 hqn); clear hx9 hb9; obtain ⟨c0, c1, c2, c3, c4, f0, f1, f2, f3, f4⟩ := RdAt.facts HK.out.rd)
                    go_roundw
                    case rel => exact ⟨k + m, true, by omega, rfl, HK.out, HN.out⟩
                    case measure => rw [HK.out.rd.pos, HPOS.out]; simp only; omega
                  · have b47 : (c == 47) = false := by rw [beq_eq_false_iff_ne]; exact hc47
                    clear h47 h92 h91 h93 hc47
                    go_wp2_with (go_at_call 135; refine (pass_good b s _ _ _ HK.out.rd HK.out.rdy hs HK.out.le HG.out).mono ?_; rintro e w9 ⟨rfl, hx9, hb9⟩; clear c0 c1 c2 c3 c4 f0 f1 f2 f3 f4; replace HK := Lib.hid (HK.out.step hx9 hb9 hqn); clear hx9 hb9; obtain ⟨c0, c1, c2, c3, c4, f0, f1, f2, f3, f4⟩ := RdAt.facts HK.out.rd)
                    go_roundw
                    case rel => exact ⟨k + m, cls, by omega, rfl, HK.out, HN.out⟩
                    case measure => rw [HK.out.rd.pos, HPOS.out]; simp only; omega
end Go.Proofs.YteejjkfmmhegmaaGreatDoor
