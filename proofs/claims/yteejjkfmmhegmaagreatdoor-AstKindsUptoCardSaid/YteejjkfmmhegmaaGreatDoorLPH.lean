/- Contract of the reader's tag. Conditions as in ..LC; no fault noted before. -/
import Derived.Test.YteejjkfmmhegmaaGreatDoorLPE
namespace Go.Proofs.YteejjkfmmhegmaaGreatDoor
open Go.RowKit

theorem tag_nameL_no {dash : Bool} {l : List UInt8} (h : ¬ (0 < (nx l).2 ∧ startC (nx l).1 = true)) : nameL dash l = 0 := by unfold nameL; rw [if_neg h]
theorem tag_nameL_yes {dash : Bool} {l : List UInt8} (h : 0 < (nx l).2 ∧ startC (nx l).1 = true) : 0 < nameL dash l := by
  unfold nameL
  rw [if_pos h]
  obtain ⟨n, h1, h2, _⟩ := goesP_pos (goesP_start (dash := dash) h)
  rw [partsL_yes (goesP_start h), h1, Int.toNat_natCast]
  omega
theorem tag_nameL_le (dash : Bool) (l : List UInt8) : nameL dash l ≤ l.length := by
  unfold nameL
  split
  · exact partLen_le _ _ _
  · exact Nat.zero_le _
theorem tag_aft_bad {l : List UInt8} {kind : Int} {n : Nat} (h : (nx (l.drop n)).2 < 0) : aft l kind n = .bad n 502 := by unfold aft; rw [if_pos h]
theorem tag_aft_fine {l : List UInt8} {kind : Int} {n : Nat} (h : 0 ≤ (nx (l.drop n)).2) : aft l kind n = .fine kind n := by unfold aft; rw [if_neg (by omega)]
theorem TkP.of_bad' {b : Nat} {s : ByteArray} {p : Nat} {line : Bool} {fl : Int} {w w' : World} {O : TkO} {off : Nat} {code : Int} {x' : Rd} {kd : Int} (hO : O = .bad off code) (h1 : Tst b s w x' w') (h2 : x'.line = line) (h3 : x'.fail = ((p + off : Nat) : Int)) (h4 : x'.code = code) :
    TkP b s p line fl w O (.returned (.tuple #[.int .i64 kd, .bool false])) w' := by
  rw [hO]
  exact ⟨x', kd, rfl, h1, h2, h3, h4⟩
theorem TkP.of_fine' {b : Nat} {s : ByteArray} {p q : Nat} {line : Bool} {fl : Int} {w w' : World} {O : TkO} {n : Nat} {kd : Int} (hO : O = .fine kd n) (hq : p + n = q) (h1 : Tst b s w ⟨q, line, fl, 0⟩ w') :
    TkP b s p line fl w O (.returned (.tuple #[.int .i64 kd, .bool true])) w' := by
  subst hq
  rw [hO]
  exact ⟨rfl, h1⟩
def seven : ByteArray := ⟨#[60, 62, 47, 123, 61, 46, 58]⟩
theorem tagP_ix (c : UInt8) : (0 ≤ Lib.indexByte seven.data.toList c) ↔ tagP c = true := by
  have h : ∀ c : Fin 256, (0 ≤ Lib.indexByte seven.data.toList c.val.toUInt8) ↔ tagP c.val.toUInt8 = true := by decide +kernel
  have := h ⟨c.toNat, c.toNat_lt⟩
  simpa using this
theorem tagT_cons (c : UInt8) (l : List UInt8) : tagT (c :: l) = if c = 39 ∨ c = 34 then (match att c l with
      | .fine n _ => .fine 12 (1 + n)
      | .bad off code => .bad (if code = 502 then 1 + off else 0) code)
    else if tagP c = true then .fine 5 1
    else if nameL true (c :: l) ≠ 0 then aft (c :: l) 1 (nameL true (c :: l))
    else odd (c :: l) := rfl
theorem extract_one (s : ByteArray) (p : Nat) (hp : p < s.size) : ((s.extract p s.size).extract 0 1) = ⟨[s[p]].toArray⟩ := by
  have h : ((s.extract p s.size).extract 0 1).data.toList = [s[p]] := by
    rw [Lib.extract_data, extract_drop, drop_cons s p hp]
    rfl
  exact (byteArray_ext _ _ h).symm
set_option maxRecDepth 20000 in
set_option maxHeartbeats 8000000 in
theorem tag_any (b : Nat) (s : ByteArray) (p : Nat) (line : Bool) (fl : Int) (w : World) (hx : RdAt w b s ⟨p, line, fl, 0⟩) (hr : Ready b w) (hs : s.size ≤ 16777216) (hp : p ≤ s.size) :
    Calls Tryz.prog 111 #[.pointer (some ⟨b, 0, none⟩)] w fun e w' => TkP b s p line fl w (tagT (s.data.toList.drop p)) e w' := by
  have HK := Lib.hid (show Tst b s w ⟨p, line, fl, 0⟩ w from ⟨hx, But.refl _ _, hr, hp⟩)
  clear hx hr
  obtain ⟨c0, c1, c2, c3, c4, f0, f1, f2, f3, f4⟩ := RdAt.facts HK.out.rd
  have hsz : (s.extract p s.size).size = s.size - p := by rw [ByteArray.size_extract]; omega
  by_cases hend : p = s.size
  · have HN := Lib.hid (show tagT (s.data.toList.drop p) = .fine 0 0 by rw [List.drop_of_length_le (by rw [ofl]; omega)]; rfl)
    have hem := isEmpty_zero (show (s.extract p s.size).size = 0 by omega)
    clear hend
    go_enter Tryz.func111, Tryz.ntmps111
    go_upto_region 1 with fail
    go_quiet (fail)
    go_wp2_with fail
    go_ret2
    exact TkP.of_fine' HN.out (Nat.add_zero _) (HK.out.bel (bel_drewN (Below.refl _ _) _))
  · have hlt : p < s.size := by omega
    have hp1 : p + 1 ≤ s.size := hlt
    have hem := isEmpty_pos (show 0 < (s.extract p s.size).size by omega)
    have h0 : 0 < (s.extract p s.size).size := by omega
    have hc0 : (s.extract p s.size)[0]'h0 = s[p] := by simp [ByteArray.getElem_extract]
    have hO := tagT_cons s[p] (s.data.toList.drop (p + 1))
    rw [← drop_cons s p hlt] at hO
    have hone := extract_one s p hlt
    generalize tagT (s.data.toList.drop p) = O at *
    generalize hc : s[p] = c at *
    have HO := Lib.hid hO
    have HC := Lib.hid hc
    have HISC := Lib.hid (show ∀ (W : World) (x : Rd), RdAt W b s x → x.at' ≤ s.size → Calls Tryz.prog 136 #[.pointer (some ⟨b, 0, none⟩), .string ((s.extract p s.size).extract 0 1)] W fun e w' => e = .returned (.bool (Lib.hasPrefix (s.data.toList.drop x.at') [c])) ∧ Below W.heap.size W w' from fun W x hx hp => by
      rw [hone]
      exact is_lit b s x [c] W hx hp)
    clear hO hone hc hend hsz
    go_enter Tryz.func111, Tryz.ntmps111
    go_upto_region 1 with fail
    go_quiet (fail)
    go_upto_region 2 with fail
    generalize hwd : World.drewN _ _ = w3 at *
    have hbd : Below w.heap.size w w3 := by rw [← hwd]; exact bel_drewN (Below.refl _ _) _
    clear hwd c0 c1 c2 c3 c4 f0 f1 f2 f3 f4
    replace HK := Lib.hid (HK.out.bel hbd)
    clear hbd
    obtain ⟨c0, c1, c2, c3, c4, f0, f1, f2, f3, f4⟩ := RdAt.facts HK.out.rd
    generalize s.extract p s.size = t at *
    by_cases hq : c = 39 ∨ c = 34
    · have HO2 := Lib.hid (HO.out.trans (by rw [if_pos hq]))
      clear HO
      go_upto_region 4 with fail
      go_cut [19] from 20 to 27 (fun v wx => v = .bool true ∧ Tst b s w ⟨p, line, fl, 0⟩ wx)
      case first =>
        rcases hq with rfl | rfl
        · go_wp2_with fail
          go_meet
          exact ⟨rfl, HK.out⟩
        · go_wp2_with fail
          go_meet
          exact ⟨rfl, HK.out⟩
      case rest =>
        obtain ⟨rfl, hst⟩ := hcut
        clear c0 c1 c2 c3 c4 f0 f1 f2 f3 f4 HK
        have HK := Lib.hid hst
        clear hst
        obtain ⟨c0, c1, c2, c3, c4, f0, f1, f2, f3, f4⟩ := RdAt.facts HK.out.rd
        clear hq hc0
        go_upto_region 6 with fail
        have hk1 := HK.out.setRd (y := ⟨p + 1, line, fl, 0⟩) 0 (.int .i64 ((p : Int) + 1)) rfl hp1
        go_wp2_with fail
        clear c0 c1 c2 c3 c4 f0 f1 f2 f3 f4 HK
        go_loopw [2, 3] (fun _ _ wr => ∃ k : Nat, p + 1 ≤ k ∧ Tst b s w ⟨k, line, fl, 0⟩ wr ∧ att c (s.data.toList.drop (p + 1)) = (att c (s.data.toList.drop k)).shift (k - (p + 1))) (fun _ _ wr => s.size - rdPos wr b)
        case atStart => exact ⟨p + 1, Nat.le_refl _, hk1, by rw [Nat.sub_self, TpO.shift_zero]⟩
        case round =>
          clear hk1
          obtain ⟨k, hpk, hst, heq⟩ := hrel
          have hle := hst.le
          simp only at hle
          rw [att_step c (s.data.toList.drop k)] at heq
          have HPOS := Lib.hid hst.rd.pos
          have HK := Lib.hid hst
          have HEQ := Lib.hid heq
          clear hst heq
          obtain ⟨c0, c1, c2, c3, c4, f0, f1, f2, f3, f4⟩ := RdAt.facts HK.out.rd
          cases hR : Lib.hasPrefix (s.data.toList.drop k) [c] with
          | true =>
            have hl := prefix_len hR
            rw [List.length_drop, ofl] at hl
            have hl1 : k + 1 ≤ s.size := by simp at hl; omega
            have HN := Lib.hid (show O = .fine 12 (1 + (k - (p + 1) + 1)) by rw [HO2.out, HEQ.out, if_pos hR]; rfl)
            clear hl HEQ HO2
            go_upto_region 12 with (go_at_call 136; refine (HISC.out _ _ HK.out.rd HK.out.le).mono ?_; rintro e w9 ⟨rfl, hb⟩; clear c0 c1 c2 c3 c4 f0 f1 f2 f3 f4; replace HK := Lib.hid (HK.out.bel hb); clear hb; obtain ⟨c0, c1, c2, c3, c4, f0, f1, f2, f3, f4⟩ := RdAt.facts HK.out.rd)
            have hk1 := HK.out.setRd (y := ⟨k + 1, line, fl, 0⟩) 0 (.int .i64 ((k : Int) + 1)) rfl hl1
            go_wp2_with fail
            go_ret2
            exact TkP.of_fine' HN.out (by omega) hk1
          | false =>
            have HEQ2 := Lib.hid (HEQ.out.trans (by rw [if_neg (by rw [hR]; decide)]))
            have hpz := fun h => nx_pos (l := s.data.toList.drop k) h
            rw [List.length_drop, ofl] at hpz
            have HPZ := Lib.hid hpz
            clear HEQ hpz
            by_cases hneg : (nx (s.data.toList.drop k)).2 < 0
            · have HN := Lib.hid (show O = .bad (1 + (k - (p + 1))) 502 by rw [HO2.out, HEQ2.out, if_neg (by omega), if_pos hneg]; rfl)
              have HG := Lib.hid hneg
              clear HEQ2 HO2 HPZ hneg
              go_upto_region 8 with (go_at_call 136; refine (HISC.out _ _ HK.out.rd HK.out.le).mono ?_; rintro e w9 ⟨rfl, hb⟩; clear c0 c1 c2 c3 c4 f0 f1 f2 f3 f4; replace HK := Lib.hid (HK.out.bel hb); clear hb; obtain ⟨c0, c1, c2, c3, c4, f0, f1, f2, f3, f4⟩ := RdAt.facts HK.out.rd)
              go_wp2_with (go_at_call 135; refine (pass_bad b s _ _ HK.out.rd HK.out.rdy HK.out.le HG.out).mono ?_; rintro e w9 ⟨rfl, hx9, hb9⟩; clear c0 c1 c2 c3 c4 f0 f1 f2 f3 f4; replace HK := Lib.hid (HK.out.step hx9 hb9 HK.out.le); clear hx9 hb9; obtain ⟨c0, c1, c2, c3, c4, f0, f1, f2, f3, f4⟩ := RdAt.facts HK.out.rd)
              go_ret2
              exact TkP.of_bad' HN.out HK.out rfl (by simp only; omega) rfl
            · obtain ⟨n, hn, hn1, hn2, hn3⟩ := HPZ.out (by omega)
              have hqn : k + n ≤ s.size := by omega
              by_cases hz : n = 0
              · subst hz
                have HN := Lib.hid (show O = .bad 0 504 by rw [HO2.out, HEQ2.out, if_pos (show (nx (s.data.toList.drop k)).2 = 0 from hn)]; rfl)
                have HG := Lib.hid hn
                clear HEQ2 HO2 HPZ hneg hn hn1 hn2 hn3
                go_upto_region 8 with (go_at_call 136; refine (HISC.out _ _ HK.out.rd HK.out.le).mono ?_; rintro e w9 ⟨rfl, hb⟩; clear c0 c1 c2 c3 c4 f0 f1 f2 f3 f4; replace HK := Lib.hid (HK.out.bel hb); clear hb; obtain ⟨c0, c1, c2, c3, c4, f0, f1, f2, f3, f4⟩ := RdAt.facts HK.out.rd)
                go_wp2_with (first | (go_at_call 135; refine (pass_good b s _ _ _ HK.out.rd HK.out.rdy hs HK.out.le HG.out).mono ?_; rintro e w9 ⟨rfl, hx9, hb9⟩; clear c0 c1 c2 c3 c4 f0 f1 f2 f3 f4; replace HK := Lib.hid (HK.out.step hx9 hb9 hqn); clear hx9 hb9; obtain ⟨c0, c1, c2, c3, c4, f0, f1, f2, f3, f4⟩ := RdAt.facts HK.out.rd) | (go_at_call 138; refine (stop_any b s _ _ _ _ HK.out.rd).mono ?_; rintro e w9 ⟨rfl, hx9, hb9⟩; clear c0 c1 c2 c3 c4 f0 f1 f2 f3 f4; replace HK := Lib.hid (HK.out.step hx9 hb9 HK.out.le); clear hx9 hb9; obtain ⟨c0, c1, c2, c3, c4, f0, f1, f2, f3, f4⟩ := RdAt.facts HK.out.rd))
                go_ret2
                exact TkP.of_bad' HN.out HK.out rfl (by simp only [Nat.add_zero]) rfl
              · have HN := Lib.hid (show att c (s.data.toList.drop (p + 1)) = (att c (s.data.toList.drop (k + n))).shift (k + n - (p + 1)) by
                  rw [HEQ2.out, if_neg (by omega), if_neg hneg, TpO.shift_shift, hn, Int.toNat_natCast, List.drop_drop, show k - (p + 1) + n = k + n - (p + 1) by omega])
                have HG := Lib.hid hn
                have hd : decide (0 < n) = true := decide_eq_true (Nat.pos_of_ne_zero hz)
                have hpos : 0 < n := Nat.pos_of_ne_zero hz
                clear HEQ2 HPZ hneg hn hn1 hn2 hn3 hz
                go_upto_region 8 with (go_at_call 136; refine (HISC.out _ _ HK.out.rd HK.out.le).mono ?_; rintro e w9 ⟨rfl, hb⟩; clear c0 c1 c2 c3 c4 f0 f1 f2 f3 f4; replace HK := Lib.hid (HK.out.bel hb); clear hb; obtain ⟨c0, c1, c2, c3, c4, f0, f1, f2, f3, f4⟩ := RdAt.facts HK.out.rd)
                go_wp2_with (go_at_call 135; refine (pass_good b s _ _ _ HK.out.rd HK.out.rdy hs HK.out.le HG.out).mono ?_; rintro e w9 ⟨rfl, hx9, hb9⟩; clear c0 c1 c2 c3 c4 f0 f1 f2 f3 f4; replace HK := Lib.hid (HK.out.step hx9 hb9 hqn); clear hx9 hb9; obtain ⟨c0, c1, c2, c3, c4, f0, f1, f2, f3, f4⟩ := RdAt.facts HK.out.rd)
                go_roundw
                case rel => exact ⟨k + n, by omega, HK.out, HN.out⟩
                case measure => rw [HK.out.rd.pos, HPOS.out]; simp only; omega
    · replace HO := Lib.hid (HO.out.trans (by rw [if_neg hq]))
      have q1 : (((c.toNat : Nat) : Int) == 39) = false := ne_fact (show c ≠ 39 from fun h => hq (.inl h))
      have q2 : (((c.toNat : Nat) : Int) == 34) = false := ne_fact (show c ≠ 34 from fun h => hq (.inr h))
      clear hq HISC
      go_upto_region 14 with fail
      clear q1 q2
      have hI := fun W => Tryz.strings_IndexByte seven (c.toNat : Int) W
      have hix := tagP_ix c
      rw [show ((c.toNat : Int)).toNat.toUInt8 = c by simp] at hI
      generalize Lib.indexByte seven.data.toList c = ix at *
      unfold seven at hI
      have HI := Lib.hid hI
      clear hI
      cases htp : tagP c with
      | true =>
        have hix0 : 0 ≤ ix := hix.2 htp
        have HN := Lib.hid (show O = .fine 5 1 by rw [HO.out, if_pos htp])
        clear HO hix
        go_upto_region 15 with (go_at_call 123; refine (HI.out _).mono ?_; rintro e w9 ⟨rfl, rfl⟩)
        have hk1 := HK.out.setRd (y := ⟨p + 1, line, fl, 0⟩) 0 (.int .i64 ((p : Int) + 1)) rfl hp1
        go_wp2_with fail
        go_ret2
        exact TkP.of_fine' HN.out rfl hk1
      | false =>
        have hix0 : ¬ 0 ≤ ix := fun h => by rw [hix.1 h] at htp; cases htp
        replace HO := Lib.hid (HO.out.trans (by rw [if_neg (by rw [htp]; decide)]))
        have HO3 := Lib.hid (show O = if nameL true (s.data.toList.drop p) ≠ 0 then aft (s.data.toList.drop p) 1 (nameL true (s.data.toList.drop p)) else odd (s.data.toList.drop p) by rw [HO.out, drop_cons s p hlt, HC.out])
        clear HO hix htp
        go_upto_region 17 with (go_at_call 123; refine (HI.out _).mono ?_; rintro e w9 ⟨rfl, rfl⟩)
        clear HI hix0
        by_cases hnm : 0 < (nx (s.data.toList.drop p)).2 ∧ startC (nx (s.data.toList.drop p)).1 = true
        · have hn0 := tag_nameL_yes (dash := true) hnm
          have hnl := tag_nameL_le true (s.data.toList.drop p)
          rw [List.length_drop, ofl] at hnl
          have HO4 := Lib.hid (HO3.out.trans (by rw [if_pos (by omega)]))
          have HNM := Lib.hid hnm
          obtain ⟨m, hm⟩ : ∃ m, nameL true (s.data.toList.drop p) = m := ⟨_, rfl⟩
          have hqn : p + nameL true (s.data.toList.drop p) ≤ s.size := by omega
          have hqm : p + m ≤ s.size := by omega
          have HO5 := Lib.hid (HO4.out.trans (by rw [hm]))
          have HM := Lib.hid hm
          clear HO3 HO4 hnm hn0 hnl hm
          go_upto_region 18 with (go_at_call 139; refine (name_yes b s _ _ _ HK.out.rd HK.out.rdy hs HK.out.le HNM.out).mono ?_; rintro e w9 ⟨rfl, hx9, hb9⟩; clear c0 c1 c2 c3 c4 f0 f1 f2 f3 f4; replace HK := Lib.hid (HK.out.step hx9 hb9 hqn); clear hx9 hb9; obtain ⟨c0, c1, c2, c3, c4, f0, f1, f2, f3, f4⟩ := RdAt.facts HK.out.rd)
          rw [HM.out] at HK
          clear c0 c1 c2 c3 c4 f0 f1 f2 f3 f4
          obtain ⟨c0, c1, c2, c3, c4, f0, f1, f2, f3, f4⟩ := RdAt.facts HK.out.rd
          by_cases hneg : (nx (s.data.toList.drop (p + m))).2 < 0
          · have HN := Lib.hid (show O = .bad (m) 502 by rw [HO5.out]; exact tag_aft_bad (by rw [List.drop_drop]; exact hneg))
            have HBR := Lib.hid hneg
            clear HO5 hneg
            go_wp2_with (go_at_call 140; refine (broken_bad b s _ _ HK.out.rd HK.out.rdy HK.out.le HBR.out).mono ?_; rintro e w9 ⟨rfl, hx9, hb9⟩; clear c0 c1 c2 c3 c4 f0 f1 f2 f3 f4; replace HK := Lib.hid (HK.out.step hx9 hb9 HK.out.le); clear hx9 hb9; obtain ⟨c0, c1, c2, c3, c4, f0, f1, f2, f3, f4⟩ := RdAt.facts HK.out.rd)
            go_ret2
            exact TkP.of_bad' HN.out HK.out rfl rfl rfl
          · have hpos : 0 ≤ (nx (s.data.toList.drop (p + m))).2 := by omega
            have HN := Lib.hid (show O = .fine _ (m) by rw [HO5.out]; exact tag_aft_fine (by rw [List.drop_drop]; exact hpos))
            have HBR := Lib.hid hpos
            clear HO5 hneg hpos
            go_wp2_with (go_at_call 140; refine (broken_good b s _ _ HK.out.rd HK.out.rdy HK.out.le HBR.out).mono ?_; rintro e w9 ⟨rfl, hb⟩; clear c0 c1 c2 c3 c4 f0 f1 f2 f3 f4; replace HK := Lib.hid (HK.out.bel hb); clear hb; obtain ⟨c0, c1, c2, c3, c4, f0, f1, f2, f3, f4⟩ := RdAt.facts HK.out.rd)
            go_ret2
            exact TkP.of_fine' HN.out rfl HK.out
        · have HO6 := Lib.hid (HO3.out.trans (by rw [if_neg (fun h => h (tag_nameL_no hnm))]))
          have HNM := Lib.hid hnm
          clear hnm HO3
          go_upto_region 19 with (go_at_call 139; refine (name_no b s _ _ _ HK.out.rd HK.out.rdy HK.out.le HNM.out).mono ?_; rintro e w9 ⟨rfl, hb⟩; clear c0 c1 c2 c3 c4 f0 f1 f2 f3 f4; replace HK := Lib.hid (HK.out.bel hb); clear hb; obtain ⟨c0, c1, c2, c3, c4, f0, f1, f2, f3, f4⟩ := RdAt.facts HK.out.rd)
          have HOD := Lib.hid (fun W hx hr => odd_any b s p line fl W hx hr hp)
          unfold odd at HOD HO6
          generalize hoc : (if Lib.hasPrefix (s.data.toList.drop p) [92] = true then (508 : Int) else 502) = oc at *
          clear hoc
          unfold TkB at HOD
          simp only at HOD
          go_wp2_with (go_at_call 137; refine (HOD.out _ HK.out.rd HK.out.rdy).mono ?_; rintro e w9 ⟨x', rfl, hst9, hl9, hf9, hc9⟩)
          go_ret2
          exact TkP.of_bad' HO6.out (HK.out.step hst9.rd hst9.but hst9.le) hl9 hf9 hc9
end Go.Proofs.YteejjkfmmhegmaaGreatDoor
