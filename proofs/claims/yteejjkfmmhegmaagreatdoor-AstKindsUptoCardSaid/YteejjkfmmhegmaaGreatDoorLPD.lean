/- Contract of the reader's text. Conditions as in ..LC; no fault noted before. -/
import Derived.Test.YteejjkfmmhegmaaGreatDoorLPC
import Derived.Test.YteejjkfmmhegmaaGreatDoorLT
namespace Go.Proofs.YteejjkfmmhegmaaGreatDoor
open Go.RowKit

/-- what a method that reads a token's rest answers: true, or a fault noted. -/
def TkB (b : Nat) (s : ByteArray) (p : Nat) (line : Bool) (fl : Int) (w : World) (o : TkO) (e : Ending) (w' : World) : Prop := match o with
  | .fine _ n => e = .returned (.bool true) ∧ Tst b s w ⟨p + n, line, fl, 0⟩ w'
  | .bad off code => ∃ x' : Rd, e = .returned (.bool false) ∧ Tst b s w x' w' ∧ x'.line = line ∧ x'.fail = ((p + off : Nat) : Int) ∧ x'.code = code
theorem Tst.drew {b : Nat} {s : ByteArray} {w0 w : World} {x : Rd} (h : Tst b s w0 x w) : Tst b s w0 x w.drew := h.bel (Below.drew (Below.refl _ _))
theorem txtL_yes (s : ByteArray) (p : Nat) (hp : p < s.size) (h : p + 1 + sc s[p] (s.data.toList.drop (p + 1)) < s.size) (hq : s[p + 1 + sc s[p] (s.data.toList.drop (p + 1))] = s[p]) :
    p + txtL (s.data.toList.drop p) = p + 1 + sc s[p] (s.data.toList.drop (p + 1)) + 1 := by
  rw [drop_cons s p hp, txtL, List.drop_drop, if_pos]
  · omega
  · refine ⟨by rw [List.length_drop, ofl]; omega, ?_⟩
    rw [drop_cons s _ h, hq]
    rfl
theorem txtL_no (s : ByteArray) (p : Nat) (hp : p < s.size) (h : ∀ h : p + 1 + sc s[p] (s.data.toList.drop (p + 1)) < s.size, s[p + 1 + sc s[p] (s.data.toList.drop (p + 1))] ≠ s[p]) :
    p + txtL (s.data.toList.drop p) = min (p + 1 + sc s[p] (s.data.toList.drop (p + 1))) s.size := by
  rw [drop_cons s p hp, txtL, List.drop_drop, if_neg, List.length_drop, ofl]
  · omega
  · rintro ⟨h1, h2⟩
    rw [List.length_drop, ofl] at h1
    have h3 : p + 1 + sc s[p] (s.data.toList.drop (p + 1)) < s.size := by omega
    rw [drop_cons s _ h3] at h2
    exact h h3 (Option.some.inj h2)
theorem txtL_le (s : ByteArray) (p : Nat) (hp : p < s.size) : p + txtL (s.data.toList.drop p) ≤ s.size := by
  by_cases h : ∃ h : p + 1 + sc s[p] (s.data.toList.drop (p + 1)) < s.size, s[p + 1 + sc s[p] (s.data.toList.drop (p + 1))] = s[p]
  · obtain ⟨h1, h2⟩ := h
    rw [txtL_yes s p hp h1 h2]
    omega
  · rw [txtL_no s p hp (fun h1 h2 => h ⟨h1, h2⟩)]
    omega
theorem extract_mid (s : ByteArray) (p n : Nat) : (s.extract p (p + n)).data.toList = (s.data.toList.drop p).take n := by
  rw [Lib.extract_data]
  congr 1
  omega
set_option maxRecDepth 20000 in
set_option maxHeartbeats 4000000 in
theorem text_any (b : Nat) (s : ByteArray) (p : Nat) (line : Bool) (fl : Int) (w : World) (hx : RdAt w b s ⟨p, line, fl, 0⟩) (hr : Ready b w) (hs : s.size ≤ 16777216) (hp : p < s.size) :
    Calls Tryz.prog 143 #[.pointer (some ⟨b, 0, none⟩)] w fun e w' => TkB b s p line fl w (txt (s.data.toList.drop p)) e w' := by
  have HK := Lib.hid (show Tst b s w ⟨p, line, fl, 0⟩ w from ⟨hx, But.refl _ _, hr, Nat.le_of_lt hp⟩)
  have hle := Nat.le_of_lt hp
  have hT1 := txtL_yes s p hp
  have hT2 := txtL_no s p hp
  have hT3 := txtL_le s p hp
  have hm := extract_mid s p (txtL (s.data.toList.drop p))
  have hsc := strC_le ((s.data.toList.drop p).take (txtL (s.data.toList.drop p)))
  rw [← hm, ofl, ByteArray.size_extract] at hsc
  have htx : txt (s.data.toList.drop p) = if (strC (s.extract p (p + txtL (s.data.toList.drop p))).data.toList).1 = true then .fine 4 (txtL (s.data.toList.drop p)) else if (strC (s.extract p (p + txtL (s.data.toList.drop p))).data.toList).2 < txtL (s.data.toList.drop p) ∧ (nx (s.data.toList.drop (p + (strC (s.extract p (p + txtL (s.data.toList.drop p))).data.toList).2))).2 < 0 then .bad (strC (s.extract p (p + txtL (s.data.toList.drop p))).data.toList).2 502 else .bad (strC (s.extract p (p + txtL (s.data.toList.drop p))).data.toList).2 504 := by
    unfold txt
    rw [hm, List.drop_drop]
  have hck := fun W h => scheck_any (s.extract p (p + txtL (s.data.toList.drop p))) W (by rw [ByteArray.size_extract]; omega) h
  generalize txt (s.data.toList.drop p) = O at *
  generalize txtL (s.data.toList.drop p) = T at *
  obtain ⟨⟨f, a⟩, hfa⟩ : ∃ o, strC (s.extract p (p + T)).data.toList = o := ⟨_, rfl⟩
  rw [hfa] at hsc htx hck
  simp only at hsc htx hck
  have ha : p + a ≤ s.size := by omega
  have haT : a ≤ T := by omega
  generalize hA1 : (if f = true then (0 : Int) else (a : Int)) = A1 at hck
  generalize hE1 : (if f = true then (0 : Int) else 300) = E1 at hck
  have HA1 := Lib.hid hA1
  have HE1 := Lib.hid hE1
  have HTX := Lib.hid htx
  have HCK := Lib.hid hck
  have HT1 := Lib.hid hT1
  have HT2 := Lib.hid hT2
  have HT3 := Lib.hid hT3
  clear hT1 hT2 hm hsc htx hck hfa hx hr hA1 hE1
  obtain ⟨c0, c1, c2, c3, c4, f0, f1, f2, f3, f4⟩ := RdAt.facts HK.out.rd
  go_enter Tryz.func143, Tryz.ntmps143
  go_wp2_with fail
  have hst0 := HK.out
  clear c0 c1 c2 c3 c4 f0 f1 f2 f3 f4 HK
  go_loopw [3] (fun t wr => ∃ k : Nat, t = .int .i64 (k : Nat) ∧ p + 1 ≤ k ∧ k ≤ s.size + 1 ∧ Tst b s w ⟨p, line, fl, 0⟩ wr ∧ p + 1 + sc s[p] (s.data.toList.drop (p + 1)) = k + sc s[p] (s.data.toList.drop k)) (fun t _ => s.size + 1 - (intOf t).toNat)
  case atStart => exact ⟨p + 1, rfl, Nat.le_refl _, by omega, hst0, rfl⟩
  case round =>
    obtain ⟨k, rfl, hpk, hk, hst, heq⟩ := hrel
    have HK := Lib.hid hst
    have HEQ := Lib.hid heq
    clear hst heq hst0
    obtain ⟨c0, c1, c2, c3, c4, f0, f1, f2, f3, f4⟩ := RdAt.facts HK.out.rd
    obtain ⟨G, hG⟩ : ∃ G, G = decide (∃ h : k < s.size, s[k] ≠ s[p] ∧ s[k] ≠ 10 ∧ s[k] ≠ 13) := ⟨_, rfl⟩
    have HG := Lib.hid hG
    clear hG
    go_upto_region 2 with fail
    go_cut [57] from 14 to 56 (fun v wx => v = .bool G ∧ Tst b s w ⟨p, line, fl, 0⟩ wx)
    case first =>
      by_cases hlt : k < s.size
      · by_cases h1 : s[k] = s[p]
        · have b1 : (((s[k].toNat : Nat) : Int) != ((s[p].toNat : Nat) : Int)) = false := by rw [bne_eq_false_iff_eq, h1]
          have HV := Lib.hid (show G = false by rw [HG.out]; exact decide_eq_false (fun ⟨_, h, _⟩ => h h1))
          clear h1
          go_quiet (fail)
          go_wp2_with fail
          go_meet
          exact ⟨by rw [HV.out], HK.out.bel (bel_drewN (Below.refl _ _) _)⟩
        · have b1 : (((s[k].toNat : Nat) : Int) != ((s[p].toNat : Nat) : Int)) = true := by rw [bne_iff_ne]; exact fun e => h1 (UInt8.toNat.inj (by omega))
          by_cases h2 : s[k] = 10
          · have b2 : (((s[k].toNat : Nat) : Int) != 10) = false := by rw [bne_eq_false_iff_eq, h2]; rfl
            have HV := Lib.hid (show G = false by rw [HG.out]; exact decide_eq_false (fun ⟨_, _, h, _⟩ => h h2))
            clear h1 h2
            go_quiet (fail)
            go_wp2_with fail
            go_meet
            exact ⟨by rw [HV.out], HK.out.bel (bel_drewN (Below.refl _ _) _)⟩
          · have b2 : (((s[k].toNat : Nat) : Int) != 10) = true := by rw [bne_iff_ne]; exact fun e => h2 (UInt8.toNat.inj (by rw [show s[k].toNat = 10 by omega]; rfl))
            by_cases h3 : s[k] = 13
            · have b3 : (((s[k].toNat : Nat) : Int) != 13) = false := by rw [bne_eq_false_iff_eq, h3]; rfl
              have HV := Lib.hid (show G = false by rw [HG.out]; exact decide_eq_false (fun ⟨_, _, _, h⟩ => h h3))
              clear h1 h2 h3
              go_quiet (fail)
              go_wp2_with fail
              go_meet
              exact ⟨by rw [HV.out], HK.out.bel (bel_drewN (Below.refl _ _) _)⟩
            · have b3 : (((s[k].toNat : Nat) : Int) != 13) = true := by rw [bne_iff_ne]; exact fun e => h3 (UInt8.toNat.inj (by rw [show s[k].toNat = 13 by omega]; rfl))
              have HV := Lib.hid (show G = true by rw [HG.out]; exact decide_eq_true ⟨hlt, h1, h2, h3⟩)
              clear h1 h2 h3
              go_quiet (fail)
              go_wp2_with fail
              go_meet
              exact ⟨by rw [HV.out], HK.out.bel (bel_drewN (Below.refl _ _) _)⟩
      · have HV := Lib.hid (show G = false by rw [HG.out]; exact decide_eq_false (fun ⟨h, _⟩ => hlt h))
        go_quiet (fail)
        go_wp2_with fail
        go_meet
        exact ⟨by rw [HV.out], HK.out.bel (bel_drewN (Below.refl _ _) _)⟩
    case rest =>
      obtain ⟨rfl, hst⟩ := hcut
      clear c0 c1 c2 c3 c4 f0 f1 f2 f3 f4 HK
      have HK := Lib.hid hst
      clear hst
      obtain ⟨c0, c1, c2, c3, c4, f0, f1, f2, f3, f4⟩ := RdAt.facts HK.out.rd
      cases hg : G with
      | true =>
        obtain ⟨hlt, h1, h2, h3⟩ := of_decide_eq_true (HG.out.symm.trans hg)
        have hstep := sc_step s[p] s[k] (s.data.toList.drop (k + 1))
        rw [← drop_cons s k hlt, if_neg (by rintro (h | h | h); exact h1 h; exact h2 h; exact h3 h), List.drop_drop, List.drop_drop] at hstep
        have heq := HEQ.out
        rw [hstep] at heq
        clear HEQ HG h1 h2 h3 hstep
        subst hg
        by_cases h92 : s[k] = 92
        · rw [if_pos h92] at heq
          have b1 : (((s[k].toNat : Nat) : Int) == 92) = true := eq_fact (show s[k] = 92 from h92)
          have HQ := Lib.hid heq
          clear heq h92
          have hpl := fun h => prefix_len (l := s.data.toList.drop (k + 1)) (p := [13, 10]) h
          rw [List.length_drop, ofl] at hpl
          have hh : ∀ W, Calls Tryz.prog 45 #[.string (s.extract (min ((k : Int) + 1) ((s.size : Nat) : Int)).toNat s.size), .string ⟨#[13, 10]⟩] W fun e w' => e = .returned (.bool (Lib.hasPrefix (s.data.toList.drop (k + 1)) [13, 10])) ∧ w' = W := fun W => by
            rw [show (min ((k : Int) + 1) ((s.size : Nat) : Int)).toNat = k + 1 by omega]
            have := Tryz.strings_HasPrefix (s.extract (k + 1) s.size) ⟨#[13, 10]⟩ W
            rw [extract_drop, show (ByteArray.mk #[13, 10]).data.toList = [13, 10] from rfl] at this
            exact this
          obtain ⟨R, hR⟩ : ∃ R, Lib.hasPrefix (s.data.toList.drop (k + 1)) [13, 10] = R := ⟨_, rfl⟩
          rw [hR] at hh hpl
          have HQ2 := Lib.hid (HQ.out.trans (by rw [hR]))
          have HH := Lib.hid hh
          clear hh HQ hR
          have hk1 : k + 1 ≤ s.size := by omega
          go_upto_region 5 with fail
          go_cut [79] from 67 to 78 (fun v wx => v = .bool R ∧ Tst b s w ⟨p, line, fl, 0⟩ wx)
          case first =>
            go_region_with (go_at_call 45; refine (HH.out _).mono ?_; rintro e w1 ⟨rfl, rfl⟩)
            all_goals go_wp2_with fail
            all_goals go_meet
            all_goals exact ⟨rfl, HK.out.drew⟩
          case rest =>
            obtain ⟨rfl, hst⟩ := hcut
            clear c0 c1 c2 c3 c4 f0 f1 f2 f3 f4 HK HH
            cases hr : R with
            | true =>
              have hpl2 := hpl hr
              simp at hpl2
              subst hr
              go_wp2_with fail
              go_roundw
              case rel => exact ⟨k + 3, by go_num, by omega, by omega, hst, by rw [HQ2.out, if_pos rfl]; simp only [Nat.add_assoc]⟩
              case measure => simp [intOf]; omega
            | false =>
              subst hr
              go_wp2_with fail
              go_roundw
              case rel => exact ⟨k + 2, by go_num, by omega, by omega, hst, by rw [HQ2.out, if_neg (by decide)]; simp only [Nat.add_assoc]⟩
              case measure => simp [intOf]; omega
        · rw [if_neg h92] at heq
          have b1 : (((s[k].toNat : Nat) : Int) == 92) = false := ne_fact (show s[k] ≠ 92 from h92)
          have HQ := Lib.hid heq
          clear heq h92
          go_wp2_with fail
          go_roundw
          case rel => exact ⟨k + 1, by go_num, by omega, by omega, HK.out, by rw [HQ.out]; omega⟩
          case measure => simp [intOf]; omega
      | false =>
        have hno := of_decide_eq_false (HG.out.symm.trans hg)
        have hsc0 : sc s[p] (s.data.toList.drop k) = 0 := by
          by_cases hlt : k < s.size
          · rw [drop_cons s k hlt, sc_step, if_pos]
            by_cases h1 : s[k] = s[p]
            · exact .inl h1
            · by_cases h2 : s[k] = 10
              · exact .inr (.inl h2)
              · by_cases h3 : s[k] = 13
                · exact .inr (.inr h3)
                · exact absurd ⟨hlt, h1, h2, h3⟩ hno
          · rw [List.drop_of_length_le (by rw [ofl]; omega)]
            rfl
        have hkk := HEQ.out
        rw [hsc0, Nat.add_zero] at hkk
        have hU1 : ∀ h : k < s.size, s[k] = s[p] → p + T = k + 1 := by
          intro h e
          have e2 : ∀ j (hj : j < s.size), j = k → s[j] = s[p] := by
            intro j hj e1
            subst e1
            exact e
          have := HT1.out (by omega) (e2 _ (by omega) hkk)
          omega
        have hU2 : (∀ h : k < s.size, s[k] ≠ s[p]) → p + T = min k s.size := by
          intro h
          have e2 : ∀ j (hj : j < s.size), j = k → s[j] ≠ s[p] := by
            intro j hj e1
            subst e1
            exact h hj
          have := HT2.out (fun h1 => e2 _ h1 hkk)
          omega
        obtain ⟨E, hE⟩ : ∃ E, E = decide (∃ h : k < s.size, s[k] = s[p]) := ⟨_, rfl⟩
        have hU3 : E = true → k < s.size ∧ p + T = k + 1 := fun h => by
          obtain ⟨h1, h2⟩ := of_decide_eq_true (hE.symm.trans h)
          exact ⟨h1, hU1 h1 h2⟩
        have hU4 : E = false → p + T = min k s.size := fun h => hU2 (fun h1 h2 => of_decide_eq_false (hE.symm.trans h) ⟨h1, h2⟩)
        have HU3 := Lib.hid hU3
        have HU4 := Lib.hid hU4
        have HG2 := Lib.hid hE
        clear HT1 HT2 HEQ HG hno hsc0 hkk hU1 hU2 hU3 hU4 hE
        subst hg
        go_upto_region 9 with fail
        go_cut [116] from 91 to 115 (fun v wx => v = .bool E ∧ Tst b s w ⟨p, line, fl, 0⟩ wx)
        case first =>
          by_cases hlt : k < s.size
          · have hmk : min ((k : Nat) : Int) ((s.size : Nat) : Int) = k := by omega
            by_cases h1 : s[k] = s[p]
            · have b1 : (((s[k].toNat : Nat) : Int) == ((s[p].toNat : Nat) : Int)) = true := eq_fact h1
              have HV := Lib.hid (show E = true by rw [HG2.out]; exact decide_eq_true ⟨hlt, h1⟩)
              clear h1
              go_quiet (fail)
              go_wp2_with fail
              go_meet
              exact ⟨by rw [HV.out], HK.out.bel (bel_drewN (Below.refl _ _) _)⟩
            · have b1 : (((s[k].toNat : Nat) : Int) == ((s[p].toNat : Nat) : Int)) = false := ne_fact h1
              have HV := Lib.hid (show E = false by rw [HG2.out]; exact decide_eq_false (fun ⟨_, h⟩ => h1 h))
              clear h1
              go_quiet (fail)
              go_wp2_with fail
              go_meet
              exact ⟨by rw [HV.out], HK.out.bel (bel_drewN (Below.refl _ _) _)⟩
          · have hmk : min ((k : Nat) : Int) ((s.size : Nat) : Int) = ((s.size : Nat) : Int) := by omega
            have HV := Lib.hid (show E = false by rw [HG2.out]; exact decide_eq_false (fun ⟨h, _⟩ => hlt h))
            go_quiet (fail)
            go_wp2_with fail
            go_meet
            exact ⟨by rw [HV.out], HK.out.bel (bel_drewN (Below.refl _ _) _)⟩
        case rest =>
         obtain ⟨rfl, hst⟩ := hcut
         clear c0 c1 c2 c3 c4 f0 f1 f2 f3 f4 HK HG2
         have HK := Lib.hid hst
         clear hst
         obtain ⟨c0, c1, c2, c3, c4, f0, f1, f2, f3, f4⟩ := RdAt.facts HK.out.rd
         go_upto_if 116 with fail
         go_cut [3] from 117 to 118 (fun v wx => v = .int .i64 ((p + T : Nat) : Int) ∧ Tst b s w ⟨p, line, fl, 0⟩ wx)
         case first =>
          cases hE : E with
          | true =>
            obtain ⟨hlt, hV⟩ := HU3.out hE
            have HV := Lib.hid hV
            clear hV
            subst hE
            go_wp2_with fail
            go_meet
            exact ⟨by rw [HV.out]; congr 1; omega, HK.out⟩
          | false =>
            have HV := Lib.hid (HU4.out hE)
            subst hE
            go_wp2_with fail
            go_meet
            exact ⟨by rw [HV.out]; congr 1; omega, HK.out⟩
         case rest =>
           obtain ⟨rfl, hst⟩ := hcut
           clear c0 c1 c2 c3 c4 f0 f1 f2 f3 f4 HK HU3 HU4
           have HK := Lib.hid hst
           clear hst
           obtain ⟨c0, c1, c2, c3, c4, f0, f1, f2, f3, f4⟩ := RdAt.facts HK.out.rd
           have hTs := HT3.out
           go_upto_region 11 with fail
           go_cut [4, 5] from 119 to 133 (fun u v wx => u = .int .i64 A1 ∧ v = .int .i64 E1 ∧ Tst b s w ⟨p, line, fl, 0⟩ wx)
           case first =>
             go_region_with (go_at_call 48; refine (HCK.out _ (HK.out.drew.rdy.tabs)).mono ?_; rintro e w1 ⟨rfl, hb1⟩)
             all_goals go_wp2_with fail
             all_goals go_meet
             all_goals exact ⟨rfl, rfl, HK.out.drew.bel hb1⟩
           case rest =>
             obtain ⟨rfl, rfl, hst⟩ := hcut
             clear c0 c1 c2 c3 c4 f0 f1 f2 f3 f4 HK HCK
             have HK := Lib.hid hst
             clear hst
             obtain ⟨c0, c1, c2, c3, c4, f0, f1, f2, f3, f4⟩ := RdAt.facts HK.out.rd
             cases hf : f with
             | true =>
               have HN := Lib.hid (show O = .fine 4 T by rw [HTX.out, if_pos hf])
               obtain rfl : E1 = 0 := by rw [← HE1.out, hf]; rfl
               clear HA1 HE1
               clear HTX
               subst hf
               have hk1 := HK.out.setRd (y := ⟨p + T, line, fl, 0⟩) 0 (.int .i64 ((p + T : Nat) : Int)) rfl hTs
               go_wp2_with fail
               go_ret
               rw [HN.out]
               exact ⟨rfl, hk1⟩
             | false =>
               have HN0 := Lib.hid (show O = if a < T ∧ (nx (s.data.toList.drop (p + a))).2 < 0 then .bad a 502 else .bad a 504 by rw [HTX.out, if_neg (by rw [hf]; decide)])
               obtain rfl : E1 = 300 := by rw [← HE1.out, hf]; rfl
               obtain rfl : A1 = (a : Int) := by rw [← HA1.out, hf]; rfl
               clear HA1 HE1
               clear HTX
               subst hf
               have hNx := fun W h z hz => next_any s (p + a) W ha h z hz
               generalize hc2 : (nx (s.data.toList.drop (p + a))).1 = cx at *
               generalize hn2 : (nx (s.data.toList.drop (p + a))).2 = n2 at *
               have HNx := Lib.hid hNx
               clear hNx hc2 hn2
               go_upto_region 17 with (go_at_call 156; refine (HNx.out _ HK.out.rdy.tabs _ (by omega)).mono ?_; rintro e w9 ⟨rfl, hb⟩; clear c0 c1 c2 c3 c4 f0 f1 f2 f3 f4; replace HK := Lib.hid (HK.out.bel hb); clear hb; obtain ⟨c0, c1, c2, c3, c4, f0, f1, f2, f3, f4⟩ := RdAt.facts HK.out.rd)
               by_cases haT2 : a < T
               · by_cases hn : n2 < 0
                 · have HN := Lib.hid (show O = .bad a 502 by rw [HN0.out, if_pos ⟨haT2, hn⟩])
                   clear HN0
                   go_wp2_with (go_at_call 138; refine (stop_any b s _ _ _ _ HK.out.rd).mono ?_; rintro e w9 ⟨rfl, hx9, hb9⟩; clear c0 c1 c2 c3 c4 f0 f1 f2 f3 f4; replace HK := Lib.hid (HK.out.step hx9 hb9 hle); clear hx9 hb9; obtain ⟨c0, c1, c2, c3, c4, f0, f1, f2, f3, f4⟩ := RdAt.facts HK.out.rd)
                   go_ret
                   rw [HN.out]
                   exact ⟨_, rfl, HK.out, rfl, by simp only; omega, rfl⟩
                 · have HN := Lib.hid (show O = .bad a 504 by rw [HN0.out, if_neg (fun h => hn h.2)])
                   clear HN0
                   go_wp2_with (go_at_call 138; refine (stop_any b s _ _ _ _ HK.out.rd).mono ?_; rintro e w9 ⟨rfl, hx9, hb9⟩; clear c0 c1 c2 c3 c4 f0 f1 f2 f3 f4; replace HK := Lib.hid (HK.out.step hx9 hb9 hle); clear hx9 hb9; obtain ⟨c0, c1, c2, c3, c4, f0, f1, f2, f3, f4⟩ := RdAt.facts HK.out.rd)
                   go_ret
                   rw [HN.out]
                   exact ⟨_, rfl, HK.out, rfl, by simp only; omega, rfl⟩
               · have HN := Lib.hid (show O = .bad a 504 by rw [HN0.out, if_neg (fun h => haT2 h.1)])
                 clear HN0
                 go_wp2_with (go_at_call 138; refine (stop_any b s _ _ _ _ HK.out.rd).mono ?_; rintro e w9 ⟨rfl, hx9, hb9⟩; clear c0 c1 c2 c3 c4 f0 f1 f2 f3 f4; replace HK := Lib.hid (HK.out.step hx9 hb9 hle); clear hx9 hb9; obtain ⟨c0, c1, c2, c3, c4, f0, f1, f2, f3, f4⟩ := RdAt.facts HK.out.rd)
                 go_ret
                 rw [HN.out]
                 exact ⟨_, rfl, HK.out, rfl, by simp only; omega, rfl⟩
end Go.Proofs.YteejjkfmmhegmaaGreatDoor
