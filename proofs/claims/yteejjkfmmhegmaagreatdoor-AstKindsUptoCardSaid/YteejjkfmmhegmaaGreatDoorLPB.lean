/- Contract of str.escape. Conditions: the library's tables lie as they are laid; at most 2^24 bytes. -/
import Derived.Test.YteejjkfmmhegmaaGreatDoorLPA
namespace Go.Proofs.YteejjkfmmhegmaaGreatDoor
open Go.RowKit

def escV (c n : Int) (l2 l3 : List UInt8) : Bool × Nat :=
  if n ≤ 0 then (false, 1)
  else if 49 ≤ c ∧ c ≤ 57 then (false, 1)
  else if c = 48 then (if digAt l2 = true then (false, 2) else (true, 2))
  else if c = 120 then up 2 (digN 2 l2)
  else if c = 117 then (if Lib.hasPrefix l2 [123] = true then up 3 (brcN 0 true l3) else up 2 (digN 4 l2))
  else if c = 13 ∧ Lib.hasPrefix l2 [10] = true then (true, 3)
  else (true, 1 + n.toNat)
theorem escS_eq (l : List UInt8) : escS l = escV (nx (l.drop 1)).1 (nx (l.drop 1)).2 (l.drop 2) (l.drop 3) := rfl
theorem hp1 (s : ByteArray) (k : Nat) (a : UInt8) (h : k < s.size) : Lib.hasPrefix (s.data.toList.drop k) [a] = (s[k] == a) := by
  rw [drop_cons s k h]
  show (a == s[k] && true) = (s[k] == a)
  rw [Bool.and_true, Bool.eq_iff_iff, beq_iff_eq, beq_iff_eq]
  exact eq_comm
theorem hp1_end (s : ByteArray) (k : Nat) (a : UInt8) (h : s.size ≤ k) : Lib.hasPrefix (s.data.toList.drop k) [a] = false := by
  rw [List.drop_of_length_le (by rw [ofl]; exact h)]
  rfl
theorem digAt_at (s : ByteArray) (k : Nat) (h : k < s.size) : digAt (s.data.toList.drop k) = decide (48 ≤ s[k].toNat ∧ s[k].toNat ≤ 57) := by rw [drop_cons s k h]; rfl
theorem digAt_end (s : ByteArray) (k : Nat) (h : s.size ≤ k) : digAt (s.data.toList.drop k) = false := by
  rw [List.drop_of_length_le (by rw [ofl]; exact h)]
  rfl
theorem decode_nx (s : ByteArray) (p : Nat) : nx (s.data.toList.drop p) = if (Lib.decodeGo (s.extract p s.size)).1 = 65533 ∧ (Lib.decodeGo (s.extract p s.size)).2 = 1 then (((0 : Int), (-1 : Int)) : Int × Int) else (((Lib.decodeGo (s.extract p s.size)).1 : Int), ((Lib.decodeGo (s.extract p s.size)).2 : Int)) := by
  unfold nx
  rw [byteArray_ext (s.extract p s.size) (s.data.toList.drop p) (extract_drop s p)]
set_option maxRecDepth 20000 in
set_option maxHeartbeats 4000000 in
theorem escape_any (s : ByteArray) (p : Nat) (w : World) (hs : s.size ≤ 16777216) (hp : p < s.size) (hT : Lib.Utf8Tabs 2 3 w) (z : Int) (hz : z = p) :
    Calls Tryz.prog 107 #[.string s, .int .i64 z] w fun e w' => (∃ x : Int, e = .returned (.tuple #[.int .i64 x, .int .i64 ((p + (escS (s.data.toList.drop p)).2 : Nat) : Int), .bool (escS (s.data.toList.drop p)).1])) ∧ Below w.heap.size w w' := by
  subst hz
  have hd := Tryz.utf8_DecodeRuneInString (s.extract (p + 1) s.size) w hT
  have hn := decode_nx s (p + 1)
  have hS := escS_eq (s.data.toList.drop p)
  rw [List.drop_drop, List.drop_drop, List.drop_drop] at hS
  have hru := fun h => nx_rune (l := s.data.toList.drop (p + 1)) h
  have hpz := fun h => nx_pos (l := s.data.toList.drop (p + 1)) h
  rw [List.length_drop, ofl] at hpz
  generalize nx (s.data.toList.drop (p + 1)) = q at *
  obtain ⟨⟨c, n⟩, hcn⟩ : ∃ q, Lib.decodeGo (s.extract (p + 1) s.size) = q := ⟨_, rfl⟩
  rw [hcn] at hd hn
  simp only at hd hn
  clear hcn hT
  have HD := Lib.hid hd
  clear hd
  generalize escS (s.data.toList.drop p) = E at *
  by_cases hbad : c = 65533 ∧ n = 1
  · rw [if_pos hbad] at hn
    subst hn
    obtain ⟨rfl, rfl⟩ := hbad
    have HN := Lib.hid (show E = (false, 1) from hS)
    clear hS hru hpz
    go_enter Tryz.func107, Tryz.ntmps107
    go_wp2_with (go_at_call 106; refine HD.out.mono ?_; rintro e w1 ⟨rfl, hb1⟩)
    go_ret3
    exact ⟨⟨_, ret3 (by first | (rw [HN.out]; done) | (rw [HN.out]; omega) | (rw [HN.out]; simp only [up]; omega)) (by rw [HN.out]; try rfl)⟩, hb1⟩
  · rw [if_neg hbad] at hn
    subst hn
    simp only at hru hpz hS
    obtain ⟨hr0, hr1, hr2⟩ := hru (by omega)
    obtain ⟨n', hn', hn1, hn2, _⟩ := hpz (by omega)
    have hnl : n ≤ s.size - (p + 1) := by omega
    have HB := Lib.hid hbad
    clear hbad hpz hru hn' hn1 hn2
    by_cases hn0 : n = 0
    · subst hn0
      have HN := Lib.hid (show E = (false, 1) from hS)
      clear hS
      go_enter Tryz.func107, Tryz.ntmps107
      go_wp2_with (go_at_call 106; refine HD.out.mono ?_; rintro e w1 ⟨rfl, hb1⟩)
      go_ret3
      exact ⟨⟨_, ret3 (by first | (rw [HN.out]; done) | (rw [HN.out]; omega) | (rw [HN.out]; simp only [up]; omega)) (by rw [HN.out]; try rfl)⟩, hb1⟩
    · have hE : E = if 49 ≤ (c : Int) ∧ (c : Int) ≤ 57 then (false, 1) else if (c : Int) = 48 then (if digAt (s.data.toList.drop (p + 2)) = true then (false, 2) else (true, 2)) else if (c : Int) = 120 then up 2 (digN 2 (s.data.toList.drop (p + 2))) else if (c : Int) = 117 then (if Lib.hasPrefix (s.data.toList.drop (p + 2)) [123] = true then up 3 (brcN 0 true (s.data.toList.drop (p + 3))) else up 2 (digN 4 (s.data.toList.drop (p + 2)))) else if (c : Int) = 13 ∧ Lib.hasPrefix (s.data.toList.drop (p + 2)) [10] = true then (true, 3) else (true, 1 + n) := by
        rw [hS, escV, if_neg (by omega), Int.toNat_natCast]
      have HE := Lib.hid hE
      clear hS hE
      have hbn : (((c : Nat) : Int) == 65533 && ((n : Nat) : Int) == 1) = false := by
        rw [Bool.and_eq_false_iff, beq_eq_false_iff_ne, beq_eq_false_iff_ne]
        have := HB.out
        omega
      have HBN := Lib.hid hbn
      clear hbn
      by_cases hlo : c < 49
      · have e3 : ¬ (49 ≤ (c : Int) ∧ (c : Int) ≤ 57) := by omega
        have hc5 : ((c : Nat) : Int) ≠ 65533 := by omega
        by_cases h48 : c = 48
        · subst h48
          have hE := HE.out
          rw [if_neg e3, if_pos (show ((48 : Nat) : Int) = 48 from rfl)] at hE
          have HE2 := Lib.hid hE
          clear hE HE e3 hr0 hr1 hr2 HBN HB hc5
          by_cases hlt : p + 1 + 1 < s.size
          · have hdg : digAt (s.data.toList.drop (p + 2)) = decide (48 ≤ s[p + 1 + 1].toNat ∧ s[p + 1 + 1].toNat ≤ 57) := digAt_at s (p + 1 + 1) hlt
            by_cases d1 : 48 ≤ s[p + 1 + 1].toNat
            · by_cases d2 : s[p + 1 + 1].toNat ≤ 57
              · have HN := Lib.hid (show E = (false, 2) by rw [HE2.out, hdg, decide_eq_true ⟨d1, d2⟩]; rfl)
                clear HE2 hdg
                go_enter Tryz.func107, Tryz.ntmps107
                go_wp2_with (go_at_call 106; refine HD.out.mono ?_; rintro e w1 ⟨rfl, hb1⟩)
                go_ret3
                exact ⟨⟨_, ret3 (by first | (rw [HN.out]; done) | (rw [HN.out]; omega) | (rw [HN.out]; simp only [up]; omega)) (by rw [HN.out]; try rfl)⟩, hb1⟩
              · have HN := Lib.hid (show E = (true, 2) by rw [HE2.out, hdg, decide_eq_false (fun h => d2 h.2)]; rfl)
                clear HE2 hdg
                go_enter Tryz.func107, Tryz.ntmps107
                go_wp2_with (go_at_call 106; refine HD.out.mono ?_; rintro e w1 ⟨rfl, hb1⟩)
                go_ret3
                exact ⟨⟨_, ret3 (by first | (rw [HN.out]; done) | (rw [HN.out]; omega) | (rw [HN.out]; simp only [up]; omega)) (by rw [HN.out]; try rfl)⟩, hb1⟩
            · have HN := Lib.hid (show E = (true, 2) by rw [HE2.out, hdg, decide_eq_false (fun h => d1 h.1)]; rfl)
              clear HE2 hdg
              go_enter Tryz.func107, Tryz.ntmps107
              go_wp2_with (go_at_call 106; refine HD.out.mono ?_; rintro e w1 ⟨rfl, hb1⟩)
              go_ret3
              exact ⟨⟨_, ret3 (by first | (rw [HN.out]; done) | (rw [HN.out]; omega) | (rw [HN.out]; simp only [up]; omega)) (by rw [HN.out]; try rfl)⟩, hb1⟩
          · have HN := Lib.hid (show E = (true, 2) by rw [HE2.out, digAt_end s (p + 2) (by omega)]; rfl)
            clear HE2
            go_enter Tryz.func107, Tryz.ntmps107
            go_wp2_with (go_at_call 106; refine HD.out.mono ?_; rintro e w1 ⟨rfl, hb1⟩)
            go_ret3
            exact ⟨⟨_, ret3 (by first | (rw [HN.out]; done) | (rw [HN.out]; omega) | (rw [HN.out]; simp only [up]; omega)) (by rw [HN.out]; try rfl)⟩, hb1⟩
        · by_cases h13 : c = 13
          · subst h13
            have hE := HE.out
            rw [if_neg e3, if_neg (by omega), if_neg (by omega), if_neg (by omega)] at hE
            have HE2 := Lib.hid hE
            clear hE HE e3 hr0 hr1 hr2 HBN HB hc5 h48
            by_cases hlt : p + 2 < s.size
            · have hdg := hp1 s (p + 2) 10 hlt
              by_cases d1 : s[p + 2] = 10
              · have HN := Lib.hid (show E = (true, 3) by rw [HE2.out, if_pos ⟨rfl, by rw [hdg, d1]; rfl⟩])
                have b1 : (((s[p + 2].toNat : Nat) : Int) == 10) = true := eq_fact (show s[p + 2] = 10 from d1)
                clear HE2 hdg d1
                go_enter Tryz.func107, Tryz.ntmps107
                go_wp2_with (go_at_call 106; refine HD.out.mono ?_; rintro e w1 ⟨rfl, hb1⟩)
                go_ret3
                exact ⟨⟨_, ret3 (by first | (rw [HN.out]; done) | (rw [HN.out]; omega) | (rw [HN.out]; simp only [up]; omega)) (by rw [HN.out]; try rfl)⟩, hb1⟩
              · have HN := Lib.hid (show E = (true, 1 + n) by rw [HE2.out, if_neg (by rw [hdg]; intro h; exact d1 (eq_of_beq h.2))])
                have b1 : (((s[p + 2].toNat : Nat) : Int) == 10) = false := ne_fact (show s[p + 2] ≠ 10 from d1)
                clear HE2 hdg d1
                go_enter Tryz.func107, Tryz.ntmps107
                go_wp2_with (go_at_call 106; refine HD.out.mono ?_; rintro e w1 ⟨rfl, hb1⟩)
                go_ret3
                exact ⟨⟨_, ret3 (by first | (rw [HN.out]; done) | (rw [HN.out]; omega) | (rw [HN.out]; simp only [up]; omega)) (by rw [HN.out]; try rfl)⟩, hb1⟩
            · have HN := Lib.hid (show E = (true, 1 + n) by rw [HE2.out, if_neg (by rw [hp1_end s (p + 2) 10 (by omega)]; intro h; exact absurd h.2 (by decide))])
              clear HE2
              go_enter Tryz.func107, Tryz.ntmps107
              go_wp2_with (go_at_call 106; refine HD.out.mono ?_; rintro e w1 ⟨rfl, hb1⟩)
              go_ret3
              exact ⟨⟨_, ret3 (by first | (rw [HN.out]; done) | (rw [HN.out]; omega) | (rw [HN.out]; simp only [up]; omega)) (by rw [HN.out]; try rfl)⟩, hb1⟩
          · have HN := Lib.hid (show E = (true, 1 + n) by rw [HE.out, if_neg e3, if_neg (by omega), if_neg (by omega), if_neg (by omega), if_neg (fun h => h13 (by have := h.1; omega))])
            by_cases h10 : c = 10
            · subst h10
              clear HE e3 hr0 hr1 hr2 HBN HB hc5 h48 h13
              go_enter Tryz.func107, Tryz.ntmps107
              go_wp2_with (go_at_call 106; refine HD.out.mono ?_; rintro e w1 ⟨rfl, hb1⟩)
              go_ret3
              exact ⟨⟨_, ret3 (by first | (rw [HN.out]; done) | (rw [HN.out]; omega) | (rw [HN.out]; simp only [up]; omega)) (by rw [HN.out]; try rfl)⟩, hb1⟩
            · have HSI := Lib.hid (fun W => simple_any c hr0 hr1 hr2 W)
              have bf65533 : (((c : Nat) : Int) == 65533) = false := by rw [beq_eq_false_iff_ne]; omega
              have bf48 : (((c : Nat) : Int) == 48) = false := by rw [beq_eq_false_iff_ne]; omega
              have bf120 : (((c : Nat) : Int) == 120) = false := by rw [beq_eq_false_iff_ne]; omega
              have bf117 : (((c : Nat) : Int) == 117) = false := by rw [beq_eq_false_iff_ne]; omega
              have bf13 : (((c : Nat) : Int) == 13) = false := by rw [beq_eq_false_iff_ne]; omega
              have bf10 : (((c : Nat) : Int) == 10) = false := by rw [beq_eq_false_iff_ne]; omega
              have bf8232 : (((c : Nat) : Int) == 8232) = false := by rw [beq_eq_false_iff_ne]; omega
              have bf8233 : (((c : Nat) : Int) == 8233) = false := by rw [beq_eq_false_iff_ne]; omega
              clear HE e3 hr0 hr1 hr2 HBN HB hc5 h48 h13 h10
              go_enter Tryz.func107, Tryz.ntmps107
              go_upto_region 22 with (first | (go_at_call 106; refine HD.out.mono ?_; rintro e w1 ⟨rfl, hb1⟩) | (go_at_call 129; refine (HSI.out _).mono ?_; rintro e w2 ⟨⟨x, rfl⟩, hb2⟩))
              by_cases hx0 : 0 ≤ x
              · go_wp2_with fail
                go_ret3
                exact ⟨⟨_, ret3 (by first | (rw [HN.out]; done) | (rw [HN.out]; omega) | (rw [HN.out]; simp only [up]; omega)) (by rw [HN.out]; try rfl)⟩, bel_next hb1 hb2⟩
              · go_wp2_with fail
                go_ret3
                exact ⟨⟨_, ret3 (by first | (rw [HN.out]; done) | (rw [HN.out]; omega) | (rw [HN.out]; simp only [up]; omega)) (by rw [HN.out]; try rfl)⟩, bel_next hb1 hb2⟩
      · by_cases hhi : c ≤ 57
        · have HN := Lib.hid (show E = (false, 1) by rw [HE.out, if_pos (by omega)])
          have b1 : (((c : Nat) : Int) == 65533) = false := by rw [beq_eq_false_iff_ne]; omega
          clear HE hr0 hr1 hr2 HBN HB
          go_enter Tryz.func107, Tryz.ntmps107
          go_wp2_with (go_at_call 106; refine HD.out.mono ?_; rintro e w1 ⟨rfl, hb1⟩)
          go_ret3
          exact ⟨⟨_, ret3 (by first | (rw [HN.out]; done) | (rw [HN.out]; omega) | (rw [HN.out]; simp only [up]; omega)) (by rw [HN.out]; try rfl)⟩, hb1⟩
        · have e3 : ¬ (49 ≤ (c : Int) ∧ (c : Int) ≤ 57) := by omega
          have e4 : ¬ (c : Int) = 48 := by omega
          by_cases h120 : c = 120
          · subst h120
            have hdg := fun W z hz => digits_any s (p + 2) 2 W hs (by omega) (by decide) z 2 hz rfl
            have HN := Lib.hid (show E = up 2 (digN 2 (s.data.toList.drop (p + 2))) by rw [HE.out, if_neg e3, if_neg e4, if_pos (show ((120 : Nat) : Int) = 120 from rfl)])
            generalize digN 2 (s.data.toList.drop (p + 2)) = G at *
            have HG := Lib.hid hdg
            clear hdg HE e3 e4 hr0 hr1 hr2 HBN HB
            go_enter Tryz.func107, Tryz.ntmps107
            go_wp2_with (first | (go_at_call 106; refine HD.out.mono ?_; rintro e w1 ⟨rfl, hb1⟩) | (go_at_call 127; refine (HG.out _ _ (by omega)).mono ?_; rintro e w2 ⟨⟨x, rfl⟩, rfl⟩))
            go_ret3
            exact ⟨⟨_, ret3 (by first | (rw [HN.out]; done) | (rw [HN.out]; omega) | (rw [HN.out]; simp only [up]; omega)) (by rw [HN.out]; try rfl)⟩, hb1⟩
          · by_cases h117 : c = 117
            · subst h117
              have hE := HE.out
              rw [if_neg e3, if_neg e4, if_neg (show ¬ ((117 : Nat) : Int) = 120 by decide), if_pos (show ((117 : Nat) : Int) = 117 from rfl)] at hE
              have HE2 := Lib.hid hE
              clear hE HE e3 e4 hr0 hr1 hr2 HBN HB h120
              by_cases hlt : p + 2 < s.size
              · have hpx := hp1 s (p + 2) 123 hlt
                by_cases d1 : s[p + 2] = 123
                · have HN := Lib.hid (show E = up 3 (brcN 0 true (s.data.toList.drop (p + 3))) by rw [HE2.out, if_pos (by rw [hpx, d1]; rfl)])
                  have b1 : (((s[p + 2].toNat : Nat) : Int) == 123) = true := eq_fact (show s[p + 2] = 123 from d1)
                  have hdg := fun W z hz => braced_any s (p + 3) W hs (by omega) z hz
                  generalize brcN 0 true (s.data.toList.drop (p + 3)) = G at *
                  have HG := Lib.hid hdg
                  clear HE2 hpx d1 hdg
                  go_enter Tryz.func107, Tryz.ntmps107
                  go_wp2_with (first | (go_at_call 106; refine HD.out.mono ?_; rintro e w1 ⟨rfl, hb1⟩) | (go_at_call 128; refine (HG.out _ _ (by omega)).mono ?_; rintro e w2 ⟨⟨x, rfl⟩, rfl⟩))
                  go_ret3
                  exact ⟨⟨_, ret3 (by first | (rw [HN.out]; done) | (rw [HN.out]; omega) | (rw [HN.out]; simp only [up]; omega)) (by rw [HN.out]; try rfl)⟩, hb1⟩
                · have HN := Lib.hid (show E = up 2 (digN 4 (s.data.toList.drop (p + 2))) by rw [HE2.out, if_neg (by rw [hpx]; intro h; exact d1 (eq_of_beq h))])
                  have b1 : (((s[p + 2].toNat : Nat) : Int) == 123) = false := ne_fact (show s[p + 2] ≠ 123 from d1)
                  have hdg := fun W z hz => digits_any s (p + 2) 4 W hs (by omega) (by decide) z 4 hz rfl
                  generalize digN 4 (s.data.toList.drop (p + 2)) = G at *
                  have HG := Lib.hid hdg
                  clear HE2 hpx d1 hdg
                  go_enter Tryz.func107, Tryz.ntmps107
                  go_wp2_with (first | (go_at_call 106; refine HD.out.mono ?_; rintro e w1 ⟨rfl, hb1⟩) | (go_at_call 127; refine (HG.out _ _ (by omega)).mono ?_; rintro e w2 ⟨⟨x, rfl⟩, rfl⟩))
                  go_ret3
                  exact ⟨⟨_, ret3 (by first | (rw [HN.out]; done) | (rw [HN.out]; omega) | (rw [HN.out]; simp only [up]; omega)) (by rw [HN.out]; try rfl)⟩, hb1⟩
              · have HN := Lib.hid (show E = up 2 (digN 4 (s.data.toList.drop (p + 2))) by rw [HE2.out, if_neg (by rw [hp1_end s (p + 2) 123 (by omega)]; decide)])
                have hdg := fun W z hz => digits_any s (p + 2) 4 W hs (by omega) (by decide) z 4 hz rfl
                generalize digN 4 (s.data.toList.drop (p + 2)) = G at *
                have HG := Lib.hid hdg
                clear HE2 hdg
                go_enter Tryz.func107, Tryz.ntmps107
                go_wp2_with (first | (go_at_call 106; refine HD.out.mono ?_; rintro e w1 ⟨rfl, hb1⟩) | (go_at_call 127; refine (HG.out _ _ (by omega)).mono ?_; rintro e w2 ⟨⟨x, rfl⟩, rfl⟩))
                go_ret3
                exact ⟨⟨_, ret3 (by first | (rw [HN.out]; done) | (rw [HN.out]; omega) | (rw [HN.out]; simp only [up]; omega)) (by rw [HN.out]; try rfl)⟩, hb1⟩
            · have HN := Lib.hid (show E = (true, 1 + n) by rw [HE.out, if_neg e3, if_neg e4, if_neg (by omega), if_neg (by omega), if_neg (fun h => by have := h.1; omega)])
              by_cases h8 : c = 8232
              · subst h8
                clear HE e3 e4 hr0 hr1 hr2 HBN HB h120 h117
                go_enter Tryz.func107, Tryz.ntmps107
                go_wp2_with (go_at_call 106; refine HD.out.mono ?_; rintro e w1 ⟨rfl, hb1⟩)
                go_ret3
                exact ⟨⟨_, ret3 (by first | (rw [HN.out]; done) | (rw [HN.out]; omega) | (rw [HN.out]; simp only [up]; omega)) (by rw [HN.out]; try rfl)⟩, hb1⟩
              · by_cases h9 : c = 8233
                · subst h9
                  clear HE e3 e4 hr0 hr1 hr2 HBN HB h120 h117 h8
                  go_enter Tryz.func107, Tryz.ntmps107
                  go_wp2_with (go_at_call 106; refine HD.out.mono ?_; rintro e w1 ⟨rfl, hb1⟩)
                  go_ret3
                  exact ⟨⟨_, ret3 (by first | (rw [HN.out]; done) | (rw [HN.out]; omega) | (rw [HN.out]; simp only [up]; omega)) (by rw [HN.out]; try rfl)⟩, hb1⟩
                · have HSI := Lib.hid (fun W => simple_any c hr0 hr1 hr2 W)
                  by_cases hff : c = 65533
                  · subst hff
                    have hn1 : n ≠ 1 := fun h => HB.out ⟨rfl, h⟩
                    have bn1 : (((n : Nat) : Int) == 1) = false := by rw [beq_eq_false_iff_ne]; omega
                    clear HE e3 e4 hr0 hr1 hr2 HBN HB h120 h117 h8 h9 hn1
                    go_enter Tryz.func107, Tryz.ntmps107
                    go_upto_region 22 with (first | (go_at_call 106; refine HD.out.mono ?_; rintro e w1 ⟨rfl, hb1⟩) | (go_at_call 129; refine (HSI.out _).mono ?_; rintro e w2 ⟨⟨x, rfl⟩, hb2⟩))
                    by_cases hx0 : 0 ≤ x
                    · go_wp2_with fail
                      go_ret3
                      exact ⟨⟨_, ret3 (by first | (rw [HN.out]; done) | (rw [HN.out]; omega) | (rw [HN.out]; simp only [up]; omega)) (by rw [HN.out]; try rfl)⟩, bel_next hb1 hb2⟩
                    · go_wp2_with fail
                      go_ret3
                      exact ⟨⟨_, ret3 (by first | (rw [HN.out]; done) | (rw [HN.out]; omega) | (rw [HN.out]; simp only [up]; omega)) (by rw [HN.out]; try rfl)⟩, bel_next hb1 hb2⟩
                  · have bf65533 : (((c : Nat) : Int) == 65533) = false := by rw [beq_eq_false_iff_ne]; omega
                    have bf48 : (((c : Nat) : Int) == 48) = false := by rw [beq_eq_false_iff_ne]; omega
                    have bf120 : (((c : Nat) : Int) == 120) = false := by rw [beq_eq_false_iff_ne]; omega
                    have bf117 : (((c : Nat) : Int) == 117) = false := by rw [beq_eq_false_iff_ne]; omega
                    have bf13 : (((c : Nat) : Int) == 13) = false := by rw [beq_eq_false_iff_ne]; omega
                    have bf10 : (((c : Nat) : Int) == 10) = false := by rw [beq_eq_false_iff_ne]; omega
                    have bf8232 : (((c : Nat) : Int) == 8232) = false := by rw [beq_eq_false_iff_ne]; omega
                    have bf8233 : (((c : Nat) : Int) == 8233) = false := by rw [beq_eq_false_iff_ne]; omega
                    clear HE e3 e4 hr0 hr1 hr2 HBN HB h120 h117 h8 h9 hff
                    go_enter Tryz.func107, Tryz.ntmps107
                    go_upto_region 22 with (first | (go_at_call 106; refine HD.out.mono ?_; rintro e w1 ⟨rfl, hb1⟩) | (go_at_call 129; refine (HSI.out _).mono ?_; rintro e w2 ⟨⟨x, rfl⟩, hb2⟩))
                    by_cases hx0 : 0 ≤ x
                    · go_wp2_with fail
                      go_ret3
                      exact ⟨⟨_, ret3 (by first | (rw [HN.out]; done) | (rw [HN.out]; omega) | (rw [HN.out]; simp only [up]; omega)) (by rw [HN.out]; try rfl)⟩, bel_next hb1 hb2⟩
                    · go_wp2_with fail
                      go_ret3
                      exact ⟨⟨_, ret3 (by first | (rw [HN.out]; done) | (rw [HN.out]; omega) | (rw [HN.out]; simp only [up]; omega)) (by rw [HN.out]; try rfl)⟩, bel_next hb1 hb2⟩
end Go.Proofs.YteejjkfmmhegmaaGreatDoor
