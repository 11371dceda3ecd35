/- Contract of the reference's Of on what does not begin with nought and a base's letter. Condition: at most 2^24 bytes. -/
import Derived.Test.YthnchejhcmpipaaDoorRE
namespace Go.Proofs.YthnchejhcmpipaaDoor
open Go.RowKit

set_option maxRecDepth 100000 in
set_option maxHeartbeats 4000000 in
theorem of_dec (s : ByteArray) (w : World) (hno : isOth s = false) (hpre : ∀ h : 1 < s.size, ¬ (s[0] = 48 ∧ (s[1] = 120 ∨ s[1] = 88 ∨ s[1] = 111 ∨ s[1] = 79 ∨ s[1] = 98 ∨ s[1] = 66))) (hs : s.size ≤ 16777216) :
    Calls Tryd.prog 26 #[.string s] w fun e w' => ∃ P ok, RefOk s P ok ∧ e = .returned (.tuple #[P.val, .bool ok]) ∧ Below w.heap.size w w' := by
  have HNO := Lib.hid hno
  have HR := Lib.hid (fun W => runz_any s 0 10 0 W base10ok (Nat.zero_le _) hs 0 rfl)
  rw [List.drop_zero] at HR
  have hle := runN_le 0 false s.data.toList
  rw [ofl] at hle
  have HRZ := Lib.hid (rfl : runZ 0 s.data.toList = runZ 0 s.data.toList)
  clear hno
  go_enter Tryd.func26, Tryd.ntmps26
  go_upto_region 1 with fail
  have hZ : ParAt (w.alloc (.cells litZ.cells 49)) w.heap.size litZ := heap_alloc_new _ _
  have hB : Below w.heap.size w (w.alloc (.cells litZ.cells 49)) := (Below.refl _ _).alloc (Nat.le_refl _) _
  have e0 : (w.alloc (.cells litZ.cells 49)) = w.alloc (.cells #[.int .i64 0, .string ⟨#[]⟩, .bool false, .string ⟨#[]⟩, .bool false, .bool false, .string ⟨#[]⟩, .bool false] 49) := rfl
  rw [e0] at hZ hB
  generalize w.alloc (.cells #[.int .i64 0, .string ⟨#[]⟩, .bool false, .string ⟨#[]⟩, .bool false, .bool false, .string ⟨#[]⟩, .bool false] 49) = w0 at *
  clear e0
  have HZ0 := Lib.hid hZ
  clear hZ
  have hq : (∃ h : 1 < s.size, s[0] = 48 ∧ ¬ (s[1] = 120 ∨ s[1] = 88 ∨ s[1] = 111 ∨ s[1] = 79 ∨ s[1] = 98 ∨ s[1] = 66)) ∨ (∃ h : 1 < s.size, s[0] ≠ 48) ∨ s.size ≤ 1 := by
    by_cases h : 1 < s.size
    · by_cases h0 : s[0] = 48
      · exact .inl ⟨h, h0, fun e => hpre h ⟨h0, e⟩⟩
      · exact .inr (.inl ⟨h, h0⟩)
    · exact .inr (.inr (by omega))
  clear hpre
  go_cut [15] from 8 to 14 (fun v wx => v = .bool (decide (1 < s.size) && (s.data.toList.head? == some 48)) ∧ wx = w0)
  case first =>
    clear HR HRZ HNO
    rcases hq with ⟨h, h0, _⟩ | ⟨h, h0⟩ | h
    · have b0 : (((s[0].toNat : Nat) : Int) == 48) = true := eq_fact h0
      have HV := Lib.hid (show (decide (1 < s.size) && (s.data.toList.head? == some 48)) = true by
        have := drop_cons s 0 (by omega)
        rw [List.drop_zero] at this
        rw [this, List.head?_cons, h0, decide_eq_true h]
        rfl)
      clear h0
      go_wp2_with fail
      go_meet
      exact ⟨by rw [HV.out], rfl⟩
    · have b0 : (((s[0].toNat : Nat) : Int) == 48) = false := ne_fact h0
      have HV := Lib.hid (show (decide (1 < s.size) && (s.data.toList.head? == some 48)) = false by
        have := drop_cons s 0 (by omega)
        rw [List.drop_zero] at this
        rw [this, List.head?_cons, decide_eq_true h, Bool.true_and, beq_eq_false_iff_ne]
        exact fun e => h0 (Option.some.inj e))
      clear h0
      go_wp2_with fail
      go_meet
      exact ⟨by rw [HV.out], rfl⟩
    · have HV := Lib.hid (show (decide (1 < s.size) && (s.data.toList.head? == some 48)) = false by rw [decide_eq_false (by omega)]; rfl)
      go_wp2_with fail
      go_meet
      exact ⟨by rw [HV.out], rfl⟩
  case rest =>
    obtain ⟨rfl, hwc⟩ := hcut
    subst hwc
    go_upto_if 15 with fail
    go_cut [3] (fun v wx => v = .bool false ∧ wx = wc)
    case first =>
      clear HR HRZ HNO
      rcases hq with ⟨h, h0, h1⟩ | ⟨h, h0⟩ | h
      · have HV := Lib.hid (show (decide (1 < s.size) && (s.data.toList.head? == some 48)) = true by
          have := drop_cons s 0 (by omega)
          rw [List.drop_zero] at this
          rw [this, List.head?_cons, h0, decide_eq_true h]
          rfl)
        have a1 : (((s[1].toNat : Nat) : Int) == 120) = false := ne_fact (d := 120) (fun e => h1 (by simp [e]))
        have a2 : (((s[1].toNat : Nat) : Int) == 88) = false := ne_fact (d := 88) (fun e => h1 (by simp [e]))
        have a3 : (((s[1].toNat : Nat) : Int) == 111) = false := ne_fact (d := 111) (fun e => h1 (by simp [e]))
        have a4 : (((s[1].toNat : Nat) : Int) == 79) = false := ne_fact (d := 79) (fun e => h1 (by simp [e]))
        have a5 : (((s[1].toNat : Nat) : Int) == 98) = false := ne_fact (d := 98) (fun e => h1 (by simp [e]))
        have a6 : (((s[1].toNat : Nat) : Int) == 66) = false := ne_fact (d := 66) (fun e => h1 (by simp [e]))
        rw [HV.out]
        clear h0 h1
        go_wp2_with fail
        go_meet
        exact ⟨rfl, rfl⟩
      · have HV := Lib.hid (show (decide (1 < s.size) && (s.data.toList.head? == some 48)) = false by
          have := drop_cons s 0 (by omega)
          rw [List.drop_zero] at this
          rw [this, List.head?_cons, decide_eq_true h, Bool.true_and, beq_eq_false_iff_ne]
          exact fun e => h0 (Option.some.inj e))
        rw [HV.out]
        clear h0
        go_wp2_with fail
        go_meet
        exact ⟨rfl, rfl⟩
      · have HV := Lib.hid (show (decide (1 < s.size) && (s.data.toList.head? == some 48)) = false by rw [decide_eq_false (by omega)]; rfl)
        rw [HV.out]
        go_wp2_with fail
        go_meet
        exact ⟨rfl, rfl⟩
    case rest =>
      obtain ⟨rfl, hwc⟩ := hcut
      subst hwc
      clear hq
      go_upto_region 14 with (go_at_call 51; refine (HR.out _).mono ?_; rintro e w1 ⟨rfl, rfl⟩)
      have hP : ParAt (wc.alloc (.cells (par0 10).cells 49)) wc.heap.size (par0 10) := heap_alloc_new _ _
      have hB1 : Below wc.heap.size wc (wc.alloc (.cells (par0 10).cells 49)) := (Below.refl _ _).alloc (Nat.le_refl _) _
      have e1 : (wc.alloc (.cells (par0 10).cells 49)) = wc.alloc (.cells #[.int .i64 10, .string ⟨#[]⟩, .bool false, .string ⟨#[]⟩, .bool false, .bool false, .string ⟨#[]⟩, .bool false] 49) := rfl
      rw [e1] at hP hB1
      have hZ := HZ0.out.below hB1 HZ0.out.lt
      have hlt : w.heap.size < wc.heap.size := HZ0.out.lt
      have hB' := hB.trans (hB1.mono hB.size)
      generalize wc.alloc (.cells #[.int .i64 10, .string ⟨#[]⟩, .bool false, .string ⟨#[]⟩, .bool false, .bool false, .string ⟨#[]⟩, .bool false] 49) = w1 at *
      generalize wc.heap.size = bp at *
      clear e1 HZ0 hB hB1 HR HRZ
      have hB := hB'
      have HZ := Lib.hid hZ
      have HP := Lib.hid hP
      clear hB' hZ hP
      by_cases hz : runZ 0 s.data.toList < 0
      · have HN := Lib.hid (dec_reject0 HNO.out hz)
        rw [runZ_bad1 hz]
        clear hz hle
        obtain ⟨c0, c1, c2, c3, c4, c5, c6, c7, f0, f1, f2, f3, f4, f5, f6, f7⟩ := ParAt.facts HP.out
        obtain ⟨d0, d1, d2, d3, d4, d5, d6, d7, g0, g1, g2, g3, g4, g5, g6, g7⟩ := ParAt.facts HZ.out
        go_wp2_with fail
        (try simp only [Exit.inBlock, Exit.then])
        refine bodyPost_ret (results_par2 rfl _ _ _ _ rfl (ParAt.lay HZ.out)) rfl ?_
        exact ⟨_, _, refOk_no HN.out, rfl, below_again hB (Nat.le_refl _)⟩
      · obtain ⟨ez, hnx⟩ := runZ_good (Int.not_lt.1 hz)
        rw [ez]
        have hc0 := fun h1 h2 => dec_reject1 (s := s) HNO.out h1 h2
        have hw0 := wholeO_run (s := s)
        generalize runN 0 false s.data.toList = n at *
        clear ez hz hnx
        have HC := Lib.hid hc0
        have HW0 := Lib.hid hw0
        clear hc0 hw0
        obtain ⟨c0, c1, c2, c3, c4, c5, c6, c7, f0, f1, f2, f3, f4, f5, f6, f7⟩ := ParAt.facts HP.out
        go_upto_region 17 with fail
        have hP := ParAt.set (y := ⟨10, s.extract 0 n, false, emp, false, false, emp, false⟩) HP.out 1 (.string (s.extract 0 n)) rfl
        have hZ := ParAt.below HZ.out ((Below.refl bp w1).setCell (p := ⟨bp, 1, none⟩) (Nat.le_refl _) (.string (s.extract 0 n))) hlt
        have hB' := hB.setCell (p := ⟨bp, 1, none⟩) (Nat.le_of_lt hlt) (.string (s.extract 0 n))
        clear c0 c1 c2 c3 c4 c5 c6 c7 f0 f1 f2 f3 f4 f5 f6 f7 HP HZ hB
        generalize w1.setCell ⟨bp, 1, none⟩ (.string (s.extract 0 n)) = w2 at *
        have HP := Lib.hid hP
        have HZ := Lib.hid hZ
        have hB := hB'
        clear hP hZ hB'
        by_cases hc : 1 < n ∧ s.data.toList.head? = some 48
        · have HN := Lib.hid (HC.out hc.1 hc.2)
          have hpos : 0 < s.size := by omega
          have b0 : (((s[0].toNat : Nat) : Int) == 48) = true := eq_fact (show s[0] = 48 by
            have := drop_cons s 0 hpos
            rw [List.drop_zero] at this
            have h2 := hc.2
            rw [this, List.head?_cons] at h2
            exact Option.some.inj h2)
          obtain ⟨hc1, _⟩ := hc
          clear HC HW0
          obtain ⟨c0, c1, c2, c3, c4, c5, c6, c7, f0, f1, f2, f3, f4, f5, f6, f7⟩ := ParAt.facts HP.out
          obtain ⟨d0, d1, d2, d3, d4, d5, d6, d7, g0, g1, g2, g3, g4, g5, g6, g7⟩ := ParAt.facts HZ.out
          go_wp2_with fail
          (try simp only [Exit.inBlock, Exit.then])
          refine bodyPost_ret (results_par2 rfl _ _ _ _ rfl (ParAt.lay HZ.out)) rfl ?_
          exact ⟨_, _, refOk_no HN.out, rfl, below_again hB (Nat.le_refl _)⟩
        · have HW := Lib.hid (show wholeO s = (s.extract 0 n, mkB (s.data.toList.drop n)) by
            have e := HW0.out hc
            exact e.trans (Prod.ext (mkB_of (extract_take s n)).symm rfl))
          clear HC HW0
          go_cut [55] from 49 to 54 (fun v wx => v = .bool false ∧ wx = w2)
          case first =>
            by_cases h1 : 1 < n
            · have hpos : 0 < s.size := by omega
              have b0 : (((s[0].toNat : Nat) : Int) == 48) = false := ne_fact (c := s[0]) (d := 48) (fun e => hc ⟨h1, by
                have := drop_cons s 0 hpos
                rw [List.drop_zero] at this
                rw [this, List.head?_cons, e]⟩)
              clear hc HW HNO
              go_wp2_with fail
              go_meet
              exact ⟨rfl, rfl⟩
            · clear hc HW HNO
              go_wp2_with fail
              go_meet
              exact ⟨rfl, rfl⟩
          case rest =>
            obtain ⟨rfl, hwc⟩ := hcut
            subst hwc
            clear hc
            go_upto_region 19 with fail
            by_cases hb : ∃ h : n < s.size, s[n] = 110 ∧ 0 < n
            · obtain ⟨hn, h110, hn0⟩ := hb
              have b0 : (((s[n].toNat : Nat) : Int) == 110) = true := eq_fact h110
              have HO := Lib.hid (show RefOk s ⟨10, s.extract 0 n, false, emp, false, false, emp, true⟩ ((n : Int) + 1 == (s.size : Int)) by
                have hd := drop_cons s n hn
                rw [h110] at hd
                have e1 := eq_size (s := s) (j := n + 1) (by omega)
                rw [Int.natCast_add] at e1
                have hD : DecS s (s.extract 0 n) (110 :: s.data.toList.drop (n + 1)) false emp (110 :: s.data.toList.drop (n + 1)) := ⟨HNO.out, by rw [HW.out, hd], partO_none (fun t e => absurd (List.cons.inj e).1 (by decide))⟩
                rw [show (1 : Int) = ((1 : Nat) : Int) from rfl, e1]
                exact refOk_dec HNO.out (dec_big hD (by rw [ByteArray.size_extract]; omega)) rfl)
              clear h110 HW HNO
              obtain ⟨c0, c1, c2, c3, c4, c5, c6, c7, f0, f1, f2, f3, f4, f5, f6, f7⟩ := ParAt.facts HP.out
              go_upto_region 21 with fail
              have hP := ParAt.set (y := ⟨10, s.extract 0 n, false, emp, false, false, emp, true⟩) HP.out 7 (.bool true) rfl
              have hZ := ParAt.below HZ.out ((Below.refl bp wc).setCell (p := ⟨bp, 7, none⟩) (Nat.le_refl _) (.bool true)) hlt
              have hB' := hB.setCell (p := ⟨bp, 7, none⟩) (Nat.le_of_lt hlt) (.bool true)
              clear c0 c1 c2 c3 c4 c5 c6 c7 f0 f1 f2 f3 f4 f5 f6 f7 HP HZ hB
              generalize wc.setCell ⟨bp, 7, none⟩ (.bool true) = w3 at *
              have HP := Lib.hid hP
              have HZ := Lib.hid hZ
              have hB := hB'
              clear hP hZ hB'
              obtain ⟨c0, c1, c2, c3, c4, c5, c6, c7, f0, f1, f2, f3, f4, f5, f6, f7⟩ := ParAt.facts HP.out
              obtain ⟨d0, d1, d2, d3, d4, d5, d6, d7, g0, g1, g2, g3, g4, g5, g6, g7⟩ := ParAt.facts HZ.out
              go_wp2_with fail
              (try simp only [Exit.inBlock, Exit.then])
              refine bodyPost_ret (results_par2 rfl _ _ _ _ rfl (ParAt.lay HZ.out)) rfl ?_
              exact ⟨_, _, HO.out, rfl, below_again hB (Nat.le_refl _)⟩
            · have HB := Lib.hid hb
              go_cut [70] from 57 to 69 (fun v wx => v = .bool false ∧ wx = wc)
              case first =>
                by_cases hn : n < s.size
                · by_cases h110 : s[n] = 110
                  · have b0 : (((s[n].toNat : Nat) : Int) == 110) = true := eq_fact h110
                    have hn0 : n = 0 := by
                      by_cases h0 : 0 < n
                      · exact absurd ⟨hn, h110, h0⟩ hb
                      · omega
                    have hn1 : (n : Int) ≤ 0 := by omega
                    clear hb HB HW HNO h110
                    clear hn0
                    go_wp2_with fail
                    go_meet
                    exact ⟨by rw [decide_eq_false (by omega)], rfl⟩
                  · have b0 : (((s[n].toNat : Nat) : Int) == 110) = false := ne_fact h110
                    clear hb HB HW HNO h110
                    go_wp2_with fail
                    go_meet
                    exact ⟨rfl, rfl⟩
                · clear hb HB HW HNO
                  go_wp2_with fail
                  go_meet
                  exact ⟨rfl, rfl⟩
              case rest =>
                obtain ⟨rfl, hwc⟩ := hcut
                subst hwc
                clear hb
                go_upto_region 22 with fail
                by_cases hbad : ∃ h : n < s.size, s[n] = 46 ∧ (runZ 0 (s.data.toList.drop (n + 1)) < 0 ∨ (n = 0 ∧ runZ 0 (s.data.toList.drop (n + 1)) = 0))
                · obtain ⟨hn, h46, hbd⟩ := hbad
                  have b0 : (((s[n].toNat : Nat) : Int) == 46) = true := eq_fact h46
                  have hd := drop_cons s n hn
                  rw [h46] at hd
                  have HN := Lib.hid (show (readB s).2 = false by
                    have hD : DecS s (s.extract 0 n) (46 :: s.data.toList.drop (n + 1)) true (mkB ((s.data.toList.drop (n + 1)).take (runN 0 false (s.data.toList.drop (n + 1))))) ((s.data.toList.drop (n + 1)).drop (runN 0 false (s.data.toList.drop (n + 1)))) := ⟨HNO.out, by rw [HW.out, hd], partO_some _⟩
                    rcases hbd with h | ⟨h1, h2⟩
                    · obtain ⟨t, ht⟩ := runZ_bad h
                      rw [ht] at hD
                      exact dec_bad2 hD
                    · have h3 := (runZ_good (Int.le_of_eq h2.symm)).1
                      refine hD.none (by rw [ByteArray.size_extract]; omega) ?_
                      rw [mkB_size, List.length_take]
                      omega)
                  have HR2 := Lib.hid (fun W => runz_any s (n + 1) 10 0 W base10ok (by omega) hs)
                  clear h46 hd HW HNO HB
                  obtain ⟨c0, c1, c2, c3, c4, c5, c6, c7, f0, f1, f2, f3, f4, f5, f6, f7⟩ := ParAt.facts HP.out
                  go_upto_region 24 with fail
                  have hP := ParAt.set (y := ⟨10, s.extract 0 n, true, emp, false, false, emp, false⟩) HP.out 2 (.bool true) rfl
                  have hZ := ParAt.below HZ.out ((Below.refl bp wc).setCell (p := ⟨bp, 2, none⟩) (Nat.le_refl _) (.bool true)) hlt
                  have hB' := hB.setCell (p := ⟨bp, 2, none⟩) (Nat.le_of_lt hlt) (.bool true)
                  clear c0 c1 c2 c3 c4 c5 c6 c7 f0 f1 f2 f3 f4 f5 f6 f7 HP HZ hB
                  generalize wc.setCell ⟨bp, 2, none⟩ (.bool true) = w3 at *
                  have HP := Lib.hid hP
                  have HZ := Lib.hid hZ
                  have hB := hB'
                  clear hP hZ hB'
                  go_upto_region 25 with (go_at_call 51; refine (HR2.out _ _ (by omega)).mono ?_; rintro e w9 ⟨rfl, rfl⟩)
                  clear HR2
                  rcases hbd with h | ⟨h1, h2⟩
                  · rw [runZ_bad1 h]
                    clear h
                    obtain ⟨c0, c1, c2, c3, c4, c5, c6, c7, f0, f1, f2, f3, f4, f5, f6, f7⟩ := ParAt.facts HP.out
                    obtain ⟨d0, d1, d2, d3, d4, d5, d6, d7, g0, g1, g2, g3, g4, g5, g6, g7⟩ := ParAt.facts HZ.out
                    go_wp2_with fail
                    (try simp only [Exit.inBlock, Exit.then])
                    refine bodyPost_ret (results_par2 rfl _ _ _ _ rfl (ParAt.lay HZ.out)) rfl ?_
                    exact ⟨_, _, refOk_no HN.out, rfl, below_again hB (Nat.le_refl _)⟩
                  · rw [h2]
                    clear h2
                    obtain ⟨c0, c1, c2, c3, c4, c5, c6, c7, f0, f1, f2, f3, f4, f5, f6, f7⟩ := ParAt.facts HP.out
                    obtain ⟨d0, d1, d2, d3, d4, d5, d6, d7, g0, g1, g2, g3, g4, g5, g6, g7⟩ := ParAt.facts HZ.out
                    go_wp2_with fail
                    (try simp only [Exit.inBlock, Exit.then])
                    refine bodyPost_ret (results_par2 rfl _ _ _ _ rfl (ParAt.lay HZ.out)) rfl ?_
                    exact ⟨_, _, refOk_no HN.out, rfl, below_again hB (Nat.le_refl _)⟩
                · have HBD := Lib.hid hbad
                  have HR2 := Lib.hid (fun W (h : n < s.size) => runz_any s (n + 1) 10 0 W base10ok (by omega) hs)
                  have hq : (∃ h : n < s.size, s[n] = 46) ∨ (∃ h : n < s.size, s[n] ≠ 46) ∨ s.size ≤ n := by
                    by_cases h : n < s.size
                    · by_cases h0 : s[n] = 46
                      · exact .inl ⟨h, h0⟩
                      · exact .inr (.inl ⟨h, h0⟩)
                    · exact .inr (.inr (by omega))
                  have hy := fun (h : n < s.size) (e : s[n] = 46) => show ((s.data.toList.drop n).head? == some 46) = true by rw [drop_cons s n h, List.head?_cons, e]; rfl
                  have hno1 := fun (h : n < s.size) (e : s[n] ≠ 46) => show ((s.data.toList.drop n).head? == some 46) = false by
                    rw [drop_cons s n h, List.head?_cons, beq_eq_false_iff_ne]; exact fun x => e (Option.some.inj x)
                  have hno2 := fun (h : s.size ≤ n) => show ((s.data.toList.drop n).head? == some 46) = false by rw [List.drop_of_length_le (by rw [ofl]; exact h)]; rfl
                  go_cut [87] from 78 to 86 (fun v wx => v = .bool ((s.data.toList.drop n).head? == some 46) ∧ wx = wc)
                  case first =>
                    clear HR2 HBD HW HNO HB hbad
                    rcases hq with ⟨h, h0⟩ | ⟨h, h0⟩ | h
                    · have b0 : (((s[n].toNat : Nat) : Int) == 46) = true := eq_fact h0
                      have HV := Lib.hid (hy h h0)
                      clear h0 hy hno1 hno2
                      go_wp2_with fail
                      go_meet
                      exact ⟨by rw [HV.out], rfl⟩
                    · have b0 : (((s[n].toNat : Nat) : Int) == 46) = false := ne_fact h0
                      have HV := Lib.hid (hno1 h h0)
                      clear h0 hy hno1 hno2
                      go_wp2_with fail
                      go_meet
                      exact ⟨by rw [HV.out], rfl⟩
                    · have HV := Lib.hid (hno2 h)
                      clear hy hno1 hno2
                      go_wp2_with fail
                      go_meet
                      exact ⟨by rw [HV.out], rfl⟩
                  case rest =>
                    obtain ⟨rfl, hwc⟩ := hcut
                    subst hwc
                    go_upto_if 87 with fail
                    go_cut [5] (fun t wx => ∃ (j : Nat) (pt : Bool) (F : ByteArray), t = .int .i64 j ∧ PhE s n j pt F ∧ ParAt wx bp ⟨10, s.extract 0 n, pt, F, false, false, emp, false⟩ ∧ ParAt wx w.heap.size litZ ∧ Below w.heap.size w wx)
                    case first =>
                      rcases hq with ⟨hn, h46⟩ | ⟨h, h0⟩ | h
                      · have HV := hy hn h46
                        have hgood : 0 ≤ runZ 0 (s.data.toList.drop (n + 1)) ∧ ¬ (n = 0 ∧ runZ 0 (s.data.toList.drop (n + 1)) = 0) := ⟨Int.not_lt.1 fun h => hbad ⟨hn, h46, .inl h⟩, fun h => hbad ⟨hn, h46, .inr h⟩⟩
                        obtain ⟨hg1, hg2⟩ := hgood
                        obtain ⟨ez, _⟩ := runZ_good hg1
                        rw [ez] at hg2
                        have HPE := Lib.hid (phE_yes HNO.out hn HW.out h46 (fun h => hg2 ⟨h.1, by omega⟩))
                        have hle2 := runN_le 0 false (s.data.toList.drop (n + 1))
                        rw [List.length_drop, ofl] at hle2
                        have hr2 := fun W => HR2.out W hn
                        rw [ez] at hr2
                        rw [HV]
                        clear hy hno1 hno2 HV hbad hg1 HBD HW HNO HB h46 ez
                        generalize runN 0 false (s.data.toList.drop (n + 1)) = k at *
                        have HR3 := Lib.hid hr2
                        clear hr2 HR2
                        obtain ⟨c0, c1, c2, c3, c4, c5, c6, c7, f0, f1, f2, f3, f4, f5, f6, f7⟩ := ParAt.facts HP.out
                        go_upto_region 24 with fail
                        have hP := ParAt.set (y := ⟨10, s.extract 0 n, true, emp, false, false, emp, false⟩) HP.out 2 (.bool true) rfl
                        have hZ := ParAt.below HZ.out ((Below.refl bp wc).setCell (p := ⟨bp, 2, none⟩) (Nat.le_refl _) (.bool true)) hlt
                        have hB' := hB.setCell (p := ⟨bp, 2, none⟩) (Nat.le_of_lt hlt) (.bool true)
                        clear c0 c1 c2 c3 c4 c5 c6 c7 f0 f1 f2 f3 f4 f5 f6 f7 HP HZ hB
                        generalize wc.setCell ⟨bp, 2, none⟩ (.bool true) = w3 at *
                        have HP := Lib.hid hP
                        have HZ := Lib.hid hZ
                        have hB := hB'
                        clear hP hZ hB'
                        go_upto_region 25 with (go_at_call 51; refine (HR3.out _ _ (by omega)).mono ?_; rintro e w9 ⟨rfl, rfl⟩)
                        clear HR3
                        go_cut [102] from 93 to 101 (fun v wx => v = .bool false ∧ wx = w3)
                        case first =>
                          by_cases hn0 : n = 0
                          · have hk : ((k : Int) == 0) = false := by rw [beq_eq_false_iff_ne]; have := fun e => hg2 ⟨hn0, e⟩; omega
                            have hn1 : ((n : Int) == 0) = true := by rw [beq_iff_eq]; omega
                            clear hg2 HPE hn0
                            go_wp2_with fail
                            go_meet
                            exact ⟨rfl, rfl⟩
                          · have hn1 : ((n : Int) == 0) = false := by rw [beq_eq_false_iff_ne]; omega
                            clear hg2 HPE hn0
                            go_wp2_with fail
                            go_meet
                            exact ⟨rfl, rfl⟩
                        case rest =>
                          obtain ⟨rfl, hwc⟩ := hcut
                          subst hwc
                          clear hg2
                          obtain ⟨c0, c1, c2, c3, c4, c5, c6, c7, f0, f1, f2, f3, f4, f5, f6, f7⟩ := ParAt.facts HP.out
                          go_upto_region 28 with fail
                          have hP := ParAt.set (y := ⟨10, s.extract 0 n, true, s.extract (n + 1) (n + 1 + k), false, false, emp, false⟩) HP.out 3 (.string (s.extract (n + 1) (n + 1 + k))) rfl
                          have hZ := ParAt.below HZ.out ((Below.refl bp wc).setCell (p := ⟨bp, 3, none⟩) (Nat.le_refl _) (.string (s.extract (n + 1) (n + 1 + k)))) hlt
                          have hB' := hB.setCell (p := ⟨bp, 3, none⟩) (Nat.le_of_lt hlt) (.string (s.extract (n + 1) (n + 1 + k)))
                          clear c0 c1 c2 c3 c4 c5 c6 c7 f0 f1 f2 f3 f4 f5 f6 f7 HP HZ hB
                          generalize wc.setCell ⟨bp, 3, none⟩ (.string (s.extract (n + 1) (n + 1 + k))) = w4 at *
                          have HP := Lib.hid hP
                          have HZ := Lib.hid hZ
                          have hB := hB'
                          clear hP hZ hB'
                          go_wp2_with fail
                          go_meet
                          exact ⟨n + 1 + k, true, _, by go_num, HPE.out, HP.out, HZ.out, hB⟩
                      · have HV := hno1 h h0
                        have HPE := Lib.hid (phE_no HNO.out hle HW.out (fun t e => h0 (by rw [drop_cons s n h] at e; exact (List.cons.inj e).1)) (fun hn t e => HB.out ⟨h, by rw [drop_cons s n h] at e; exact (List.cons.inj e).1, hn⟩))
                        rw [HV]
                        clear hy hno1 hno2 HV hbad HBD HW HNO HB h0 HR2
                        go_wp2_with fail
                        go_meet
                        exact ⟨n, false, _, rfl, HPE.out, HP.out, HZ.out, hB⟩
                      · have HV := hno2 h
                        have hdn : s.data.toList.drop n = [] := List.drop_of_length_le (by rw [ofl]; exact h)
                        have HPE := Lib.hid (phE_no HNO.out hle HW.out (fun t e => by rw [hdn] at e; cases e) (fun hn t e => by rw [hdn] at e; cases e))
                        rw [HV]
                        clear hy hno1 hno2 HV hbad HBD HW HNO HB HR2 hdn
                        go_wp2_with fail
                        go_meet
                        exact ⟨n, false, _, rfl, HPE.out, HP.out, HZ.out, hB⟩
                    case rest =>
                      clear hy hno1 hno2 hbad HBD HW HB HR2 HP HZ hB hq
                      obtain ⟨j, pt, F, rfl, hPE, hP, hZ, hB⟩ := hcut
                      have HPE := Lib.hid hPE
                      have HP := Lib.hid hP
                      have HZ := Lib.hid hZ
                      have hj := hPE.le
                      clear hPE hP hZ
                      obtain ⟨c0, c1, c2, c3, c4, c5, c6, c7, f0, f1, f2, f3, f4, f5, f6, f7⟩ := ParAt.facts HP.out
                      go_upto_region 29 with fail
                      by_cases h0 : n = 0 ∧ pt = false
                      · obtain ⟨hn0, rfl⟩ := h0
                        have hem := isEmpty_zero (show (s.extract 0 n).size = 0 by rw [ByteArray.size_extract]; omega)
                        have HN := Lib.hid (HPE.out.dec.none (by rw [ByteArray.size_extract]; omega) (by rw [(HPE.out.no rfl).2.1]; rfl))
                        clear HPE hn0 c0 c1 c2 c3 c4 c5 c6 c7 f0 f1 f2 f3 f4 f5 f6 f7
                        obtain ⟨c0, c1, c2, c3, c4, c5, c6, c7, f0, f1, f2, f3, f4, f5, f6, f7⟩ := ParAt.facts HP.out
                        obtain ⟨d0, d1, d2, d3, d4, d5, d6, d7, g0, g1, g2, g3, g4, g5, g6, g7⟩ := ParAt.facts HZ.out
                        go_wp2_with fail
                        (try simp only [Exit.inBlock, Exit.then])
                        refine bodyPost_ret (results_par2 rfl _ _ _ _ rfl (ParAt.lay HZ.out)) rfl ?_
                        exact ⟨_, _, refOk_no HN.out, rfl, below_again hB (Nat.le_refl _)⟩
                      · have H0 := Lib.hid h0
                        go_cut [124] from 117 to 123 (fun v wx => v = .bool false ∧ wx = wc)
                        case first =>
                          clear HPE HZ HNO
                          by_cases hn0 : n = 0
                          · have hem := isEmpty_zero (show (s.extract 0 n).size = 0 by rw [ByteArray.size_extract]; omega)
                            obtain rfl : pt = true := by cases pt with
                              | true => rfl
                              | false => exact absurd ⟨hn0, rfl⟩ h0
                            clear h0 hn0 H0
                            go_wp2_with fail
                            go_meet
                            exact ⟨rfl, rfl⟩
                          · have hem := isEmpty_pos (show 0 < (s.extract 0 n).size by rw [ByteArray.size_extract]; omega)
                            clear h0 hn0 H0
                            go_wp2_with fail
                            go_meet
                            exact ⟨rfl, rfl⟩
                        case rest =>
                          obtain ⟨rfl, hwc⟩ := hcut
                          subst hwc
                          clear h0 c0 c1 c2 c3 c4 c5 c6 c7 f0 f1 f2 f3 f4 f5 f6 f7
                          obtain ⟨c0, c1, c2, c3, c4, c5, c6, c7, f0, f1, f2, f3, f4, f5, f6, f7⟩ := ParAt.facts HP.out
                          go_upto_region 31 with fail
                          by_cases he : ∃ h : j < s.size, s[j] = 101 ∨ s[j] = 69
                          · obtain ⟨hjs, he⟩ := he
                            have HE := Lib.hid he
                            go_cut [141] from 126 to 140 (fun v wx => v = .bool true ∧ wx = wc)
                            case first =>
                              clear HPE HZ HNO H0 HE
                              rcases he with he | he
                              · have b0 : (((s[j].toNat : Nat) : Int) == 101) = true := eq_fact he
                                clear he
                                go_wp2_with fail
                                go_meet
                                exact ⟨rfl, rfl⟩
                              · have b0 : (((s[j].toNat : Nat) : Int) == 101) = false := by rw [he]; rfl
                                have b1 : (((s[j].toNat : Nat) : Int) == 69) = true := eq_fact he
                                clear he
                                go_wp2_with fail
                                go_meet
                                exact ⟨rfl, rfl⟩
                            case rest =>
                              obtain ⟨rfl, hwc⟩ := hcut
                              subst hwc
                              clear he c0 c1 c2 c3 c4 c5 c6 c7 f0 f1 f2 f3 f4 f5 f6 f7
                              obtain ⟨c0, c1, c2, c3, c4, c5, c6, c7, f0, f1, f2, f3, f4, f5, f6, f7⟩ := ParAt.facts HP.out
                              go_upto_region 33 with fail
                              have hP := ParAt.set (y := ⟨10, s.extract 0 n, pt, F, true, false, emp, false⟩) HP.out 4 (.bool true) rfl
                              have hZ := ParAt.below HZ.out ((Below.refl bp wc).setCell (p := ⟨bp, 4, none⟩) (Nat.le_refl _) (.bool true)) hlt
                              have hB' := hB.setCell (p := ⟨bp, 4, none⟩) (Nat.le_of_lt hlt) (.bool true)
                              clear c0 c1 c2 c3 c4 c5 c6 c7 f0 f1 f2 f3 f4 f5 f6 f7 HP HZ hB
                              generalize wc.setCell ⟨bp, 4, none⟩ (.bool true) = w3 at *
                              have HP := Lib.hid hP
                              have HZ := Lib.hid hZ
                              have hB := hB'
                              clear hP hZ hB'
                              go_upto_region 34 with fail
                              have hq : (∃ h : j + 1 < s.size, s[j + 1] = 43) ∨ (∃ h : j + 1 < s.size, s[j + 1] = 45) ∨ (∃ h : j + 1 < s.size, s[j + 1] ≠ 43 ∧ s[j + 1] ≠ 45) ∨ s.size ≤ j + 1 := by
                                by_cases h : j + 1 < s.size
                                · by_cases h0 : s[j + 1] = 43
                                  · exact .inl ⟨h, h0⟩
                                  · by_cases h1 : s[j + 1] = 45
                                    · exact .inr (.inl ⟨h, h1⟩)
                                    · exact .inr (.inr (.inl ⟨h, h0, h1⟩))
                                · exact .inr (.inr (.inr (by omega)))
                              have hsg : ∃ sg : Bool, (sg = true → ∃ h : j + 1 < s.size, s[j + 1] = 43 ∨ s[j + 1] = 45) ∧ (sg = false → ∀ h : j + 1 < s.size, s[j + 1] ≠ 43 ∧ s[j + 1] ≠ 45) ∧ ((∃ h : j + 1 < s.size, s[j + 1] = 43) → sg = true) ∧ ((∃ h : j + 1 < s.size, s[j + 1] = 45) → sg = true) ∧ ((∃ h : j + 1 < s.size, s[j + 1] ≠ 43 ∧ s[j + 1] ≠ 45) → sg = false) ∧ (s.size ≤ j + 1 → sg = false) := by
                                rcases hq with ⟨h, h0⟩ | ⟨h, h0⟩ | ⟨h, h0, h1⟩ | h
                                · exact ⟨true, fun _ => ⟨h, .inl h0⟩, fun e => by (cases e), fun _ => rfl, fun _ => rfl, fun ⟨_, h1, _⟩ => absurd h0 h1, fun h2 => by omega⟩
                                · exact ⟨true, fun _ => ⟨h, .inr h0⟩, fun e => by (cases e), fun _ => rfl, fun _ => rfl, fun ⟨_, _, h1⟩ => absurd h0 h1, fun h2 => by omega⟩
                                · exact ⟨false, fun e => by (cases e), fun _ _ => ⟨h0, h1⟩, fun ⟨_, h2⟩ => absurd h2 h0, fun ⟨_, h2⟩ => absurd h2 h1, fun _ => rfl, fun _ => rfl⟩
                                · exact ⟨false, fun e => by (cases e), fun _ h1 => by omega, fun ⟨h1, _⟩ => by omega, fun ⟨h1, _⟩ => by omega, fun _ => rfl, fun _ => rfl⟩
                              obtain ⟨sg, s1, s2, s3, s4, s5, s6⟩ := hsg
                              have S1 := Lib.hid s1
                              have S2 := Lib.hid s2
                              go_cut [160] from 145 to 159 (fun v wx => v = .bool sg ∧ wx = w3)
                              case first =>
                                clear HPE HZ HNO H0 HE HP s1 s2 S1 S2
                                rcases hq with ⟨h, h0⟩ | ⟨h, h0⟩ | ⟨h, h0, h1⟩ | h
                                · have b0 : (((s[j + 1].toNat : Nat) : Int) == 43) = true := eq_fact h0
                                  have HV := Lib.hid (s3 ⟨h, h0⟩)
                                  clear h0 s3 s4 s5 s6
                                  go_wp2_with fail
                                  go_meet
                                  exact ⟨by rw [HV.out], rfl⟩
                                · have b0 : (((s[j + 1].toNat : Nat) : Int) == 43) = false := by rw [h0]; rfl
                                  have b1 : (((s[j + 1].toNat : Nat) : Int) == 45) = true := eq_fact h0
                                  have HV := Lib.hid (s4 ⟨h, h0⟩)
                                  clear h0 s3 s4 s5 s6
                                  go_wp2_with fail
                                  go_meet
                                  exact ⟨by rw [HV.out], rfl⟩
                                · have b0 : (((s[j + 1].toNat : Nat) : Int) == 43) = false := ne_fact h0
                                  have b1 : (((s[j + 1].toNat : Nat) : Int) == 45) = false := ne_fact h1
                                  have HV := Lib.hid (s5 ⟨h, h0, h1⟩)
                                  clear h0 h1 s3 s4 s5 s6
                                  go_wp2_with fail
                                  go_meet
                                  exact ⟨by rw [HV.out], rfl⟩
                                · have HV := Lib.hid (s6 h)
                                  clear s3 s4 s5 s6
                                  go_wp2_with fail
                                  go_meet
                                  exact ⟨by rw [HV.out], rfl⟩
                              case rest =>
                                obtain ⟨rfl, hwc⟩ := hcut
                                subst hwc
                                clear s1 s2 s3 s4 s5 s6 hq
                                go_upto_if 160 with fail
                                go_cut [5] (fun t wx => ∃ (i : Nat) (m : Bool), t = .int .i64 i ∧ PhS s j i m ∧ ParAt wx bp ⟨10, s.extract 0 n, pt, F, true, m, emp, false⟩ ∧ ParAt wx w.heap.size litZ ∧ Below w.heap.size w wx)
                                case first =>
                                  clear HPE HNO H0 HE
                                  cases sg with
                                  | true =>
                                    obtain ⟨h1, h2⟩ := S1.out rfl
                                    clear S1 S2
                                    obtain ⟨c0, c1, c2, c3, c4, c5, c6, c7, f0, f1, f2, f3, f4, f5, f6, f7⟩ := ParAt.facts HP.out
                                    rcases h2 with h2 | h2
                                    · have b0 : (((s[j + 1].toNat : Nat) : Int) == 45) = false := by rw [h2]; rfl
                                      have HS := Lib.hid (phS_plus h1 h2)
                                      clear h2
                                      go_upto_region 36 with fail
                                      have hP := ParAt.set (y := ⟨10, s.extract 0 n, pt, F, true, false, emp, false⟩) HP.out 5 (.bool false) rfl
                                      have hZ := ParAt.below HZ.out ((Below.refl bp wc).setCell (p := ⟨bp, 5, none⟩) (Nat.le_refl _) (.bool false)) hlt
                                      have hB' := hB.setCell (p := ⟨bp, 5, none⟩) (Nat.le_of_lt hlt) (.bool false)
                                      clear c0 c1 c2 c3 c4 c5 c6 c7 f0 f1 f2 f3 f4 f5 f6 f7 HP HZ hB
                                      generalize wc.setCell ⟨bp, 5, none⟩ (.bool false) = w4 at *
                                      have HP := Lib.hid hP
                                      have HZ := Lib.hid hZ
                                      have hB := hB'
                                      clear hP hZ hB'
                                      go_wp2_with fail
                                      go_meet
                                      exact ⟨j + 2, false, by go_num, HS.out, HP.out, HZ.out, hB⟩
                                    · have b0 : (((s[j + 1].toNat : Nat) : Int) == 45) = true := eq_fact h2
                                      have HS := Lib.hid (phS_minus h1 h2)
                                      clear h2
                                      go_upto_region 36 with fail
                                      have hP := ParAt.set (y := ⟨10, s.extract 0 n, pt, F, true, true, emp, false⟩) HP.out 5 (.bool true) rfl
                                      have hZ := ParAt.below HZ.out ((Below.refl bp wc).setCell (p := ⟨bp, 5, none⟩) (Nat.le_refl _) (.bool true)) hlt
                                      have hB' := hB.setCell (p := ⟨bp, 5, none⟩) (Nat.le_of_lt hlt) (.bool true)
                                      clear c0 c1 c2 c3 c4 c5 c6 c7 f0 f1 f2 f3 f4 f5 f6 f7 HP HZ hB
                                      generalize wc.setCell ⟨bp, 5, none⟩ (.bool true) = w4 at *
                                      have HP := Lib.hid hP
                                      have HZ := Lib.hid hZ
                                      have hB := hB'
                                      clear hP hZ hB'
                                      go_wp2_with fail
                                      go_meet
                                      exact ⟨j + 2, true, by go_num, HS.out, HP.out, HZ.out, hB⟩
                                  | false =>
                                    have HS := Lib.hid (phS_no hjs (S2.out rfl))
                                    clear S1 S2
                                    go_wp2_with fail
                                    go_meet
                                    exact ⟨j + 1, false, by go_num, HS.out, HP.out, HZ.out, hB⟩
                                case rest =>
                                  clear HP HZ hB S1 S2
                                  obtain ⟨i, m, rfl, hPS, hP, hZ, hB⟩ := hcut
                                  have HPS := Lib.hid hPS
                                  have HP := Lib.hid hP
                                  have HZ := Lib.hid hZ
                                  have hi := hPS.1
                                  clear hPS hP hZ
                                  have hr3 := fun W => runz_any s i 10 0 W base10ok hi hs
                                  have hb3 := fun hr => phH_bad (s := s) (F := F) (pt := pt) (m := m) HPE.out hle H0.out hjs HE.out HPS.out hr
                                  have hg3 := fun hr h9 => phH_good (s := s) (F := F) (pt := pt) (m := m) HPE.out HNO.out hle H0.out hjs HE.out HPS.out hr h9
                                  have HR4 := Lib.hid hr3
                                  have HB3 := Lib.hid hb3
                                  have HG3 := Lib.hid hg3
                                  clear hr3 hb3 hg3 HPE H0 HE HNO HPS
                                  by_cases hz3 : runZ 0 (s.data.toList.drop i) < 1
                                  · have HN := Lib.hid (HB3.out (.inl hz3))
                                    clear HB3 HG3
                                    generalize runZ 0 (s.data.toList.drop i) = z3 at *
                                    obtain ⟨c0, c1, c2, c3, c4, c5, c6, c7, f0, f1, f2, f3, f4, f5, f6, f7⟩ := ParAt.facts HP.out
                                    obtain ⟨d0, d1, d2, d3, d4, d5, d6, d7, g0, g1, g2, g3, g4, g5, g6, g7⟩ := ParAt.facts HZ.out
                                    go_wp2_with (go_at_call 51; refine (HR4.out _ _ rfl).mono ?_; rintro e w9 ⟨rfl, rfl⟩)
                                    (try simp only [Exit.inBlock, Exit.then])
                                    refine bodyPost_ret (results_par2 rfl _ _ _ _ rfl (ParAt.lay HZ.out)) rfl ?_
                                    exact ⟨_, _, refOk_no HN.out, rfl, below_again hB (Nat.le_refl _)⟩
                                  · obtain ⟨ez, _⟩ := runZ_good (show 0 ≤ runZ 0 (s.data.toList.drop i) by omega)
                                    have hle3 := runN_le 0 false (s.data.toList.drop i)
                                    rw [List.length_drop, ofl] at hle3
                                    have hb4 := fun h => HB3.out (.inr h)
                                    have hg4 := HG3.out (Int.not_lt.1 hz3)
                                    have hr4 := HR4.out
                                    rw [ez] at hr4 hz3
                                    have hT := ext_mk s i (runN 0 false (s.data.toList.drop i))
                                    generalize runN 0 false (s.data.toList.drop i) = k at *
                                    have hTl : (s.extract i (i + k)).data.toList = (s.data.toList.drop i).take k := by rw [hT, mkB_list]
                                    rw [← hTl] at hb4 hg4
                                    have hTs : (s.extract i (i + k)).size ≤ 16777216 := by rw [ByteArray.size_extract]; omega
                                    have hpl := fun W => rplain_any (s.extract i (i + k)) W hTs
                                    obtain ⟨Q, hQ, hQl⟩ := mk_of (plainL (s.extract i (i + k)).data.toList)
                                    rw [← hQl] at hb4 hg4
                                    rw [hQ] at hpl
                                    have hQs : Q.size ≤ 16777216 := by
                                      rw [← ofl, hQl]
                                      exact Nat.le_trans (plainL_len _) (by rw [ofl]; exact hTs)
                                    have hah := fun W => ahead_any Q W hQs
                                    obtain ⟨A, hA, hAl⟩ := mk_of (Lib.trimLeftB Q.data.toList 48)
                                    rw [← hAl, ofl] at hb4 hg4
                                    rw [hA] at hah
                                    have hAs : A.size ≤ 16777216 := by
                                      rw [← ofl, hAl]
                                      exact Nat.le_trans (List.dropWhile_sublist _).length_le (by rw [ofl]; exact hQs)
                                    have HB4 := Lib.hid hb4
                                    have HG4 := Lib.hid hg4
                                    have HR5 := Lib.hid hr4
                                    have HPL := Lib.hid hpl
                                    have HAH := Lib.hid hah
                                    have hz4 : (1 : Int) ≤ (k : Int) := by omega
                                    clear HB3 HG3 HR4 ez hb4 hg4 hr4 hT hTl hTs hpl hQ hQl hah hA hAl hz3
                                    go_upto_region 40 with (go_at_call 51; refine (HR5.out _ _ rfl).mono ?_; rintro e w9 ⟨rfl, rfl⟩)
                                    obtain ⟨c0, c1, c2, c3, c4, c5, c6, c7, f0, f1, f2, f3, f4, f5, f6, f7⟩ := ParAt.facts HP.out
                                    go_upto_region 41 with fail
                                    have hP := ParAt.set (y := ⟨10, s.extract 0 n, pt, F, true, m, s.extract i (i + k), false⟩) HP.out 6 (.string (s.extract i (i + k))) rfl
                                    have hZ := ParAt.below HZ.out ((Below.refl bp wc).setCell (p := ⟨bp, 6, none⟩) (Nat.le_refl _) (.string (s.extract i (i + k)))) hlt
                                    have hB' := hB.setCell (p := ⟨bp, 6, none⟩) (Nat.le_of_lt hlt) (.string (s.extract i (i + k)))
                                    clear c0 c1 c2 c3 c4 c5 c6 c7 f0 f1 f2 f3 f4 f5 f6 f7 HP HZ hB
                                    generalize wc.setCell ⟨bp, 6, none⟩ (.string (s.extract i (i + k))) = w4 at *
                                    have HP := Lib.hid hP
                                    have HZ := Lib.hid hZ
                                    have hB := hB'
                                    clear hP hZ hB'
                                    obtain ⟨c0, c1, c2, c3, c4, c5, c6, c7, f0, f1, f2, f3, f4, f5, f6, f7⟩ := ParAt.facts HP.out
                                    go_upto_if 189 with (first | (go_at_call 29; refine (HPL.out _).mono ?_; rintro e w5 ⟨rfl, hb5⟩) | (go_at_call 27; refine (HAH.out _).mono ?_; rintro e w6 ⟨rfl, rfl⟩))
                                    have hP := HP.out.below hb5 HP.out.lt
                                    have hZ := HZ.out.below hb5 HZ.out.lt
                                    have hB' := bel_next hB hb5
                                    clear c0 c1 c2 c3 c4 c5 c6 c7 f0 f1 f2 f3 f4 f5 f6 f7 HP HZ hB HPL HAH HR5
                                    have HP := Lib.hid hP
                                    have HZ := Lib.hid hZ
                                    have hB := hB'
                                    clear hP hZ hB' hb5
                                    by_cases h9 : 9 < A.size
                                    · have HN := Lib.hid (HB4.out h9)
                                      clear HB4 HG4
                                      obtain ⟨c0, c1, c2, c3, c4, c5, c6, c7, f0, f1, f2, f3, f4, f5, f6, f7⟩ := ParAt.facts HP.out
                                      obtain ⟨d0, d1, d2, d3, d4, d5, d6, d7, g0, g1, g2, g3, g4, g5, g6, g7⟩ := ParAt.facts HZ.out
                                      go_wp2_with fail
                                      (try simp only [Exit.inBlock, Exit.then])
                                      refine bodyPost_ret (results_par2 rfl _ _ _ _ rfl (ParAt.lay HZ.out)) rfl ?_
                                      exact ⟨_, _, refOk_no HN.out, rfl, below_again hB (Nat.le_refl _)⟩
                                    · have HO := Lib.hid (HG4.out h9)
                                      clear HB4 HG4
                                      obtain ⟨c0, c1, c2, c3, c4, c5, c6, c7, f0, f1, f2, f3, f4, f5, f6, f7⟩ := ParAt.facts HP.out
                                      obtain ⟨d0, d1, d2, d3, d4, d5, d6, d7, g0, g1, g2, g3, g4, g5, g6, g7⟩ := ParAt.facts HZ.out
                                      go_wp2_with fail
                                      (try simp only [Exit.inBlock, Exit.then])
                                      refine bodyPost_ret (results_par2 rfl _ _ _ _ rfl (ParAt.lay HZ.out)) rfl ?_
                                      exact ⟨_, _, HO.out, rfl, below_again hB (Nat.le_refl _)⟩
                          · have HO := Lib.hid (phE_noexp HPE.out HNO.out hle H0.out (fun h e => he ⟨h, e⟩))
                            have hq : (∃ h : j < s.size, s[j] ≠ 101 ∧ s[j] ≠ 69) ∨ s.size ≤ j := by
                              by_cases h : j < s.size
                              · exact .inl ⟨h, fun e => he ⟨h, .inl e⟩, fun e => he ⟨h, .inr e⟩⟩
                              · exact .inr (by omega)
                            clear he HPE HNO H0 c0 c1 c2 c3 c4 c5 c6 c7 f0 f1 f2 f3 f4 f5 f6 f7
                            rcases hq with ⟨h, h0, h1⟩ | h
                            · have b0 : (((s[j].toNat : Nat) : Int) == 101) = false := ne_fact h0
                              have b1 : (((s[j].toNat : Nat) : Int) == 69) = false := ne_fact h1
                              clear h0 h1
                              obtain ⟨c0, c1, c2, c3, c4, c5, c6, c7, f0, f1, f2, f3, f4, f5, f6, f7⟩ := ParAt.facts HP.out
                              obtain ⟨d0, d1, d2, d3, d4, d5, d6, d7, g0, g1, g2, g3, g4, g5, g6, g7⟩ := ParAt.facts HZ.out
                              go_wp2_with fail
                              (try simp only [Exit.inBlock, Exit.then])
                              refine bodyPost_ret (results_par2 rfl _ _ _ _ rfl (ParAt.lay HZ.out)) rfl ?_
                              exact ⟨_, _, HO.out, rfl, below_again hB (Nat.le_refl _)⟩
                            · skip
                              obtain ⟨c0, c1, c2, c3, c4, c5, c6, c7, f0, f1, f2, f3, f4, f5, f6, f7⟩ := ParAt.facts HP.out
                              obtain ⟨d0, d1, d2, d3, d4, d5, d6, d7, g0, g1, g2, g3, g4, g5, g6, g7⟩ := ParAt.facts HZ.out
                              go_wp2_with fail
                              (try simp only [Exit.inBlock, Exit.then])
                              refine bodyPost_ret (results_par2 rfl _ _ _ _ rfl (ParAt.lay HZ.out)) rfl ?_
                              exact ⟨_, _, HO.out, rfl, below_again hB (Nat.le_refl _)⟩
/-- Of. -/
theorem of_any (s : ByteArray) (w : World) (hs : s.size ≤ 16777216) :
    Calls Tryd.prog 26 #[.string s] w fun e w' => ∃ P ok, RefOk s P ok ∧ e = .returned (.tuple #[P.val, .bool ok]) ∧ Below w.heap.size w w' := by
  by_cases h : ∃ h : 1 < s.size, s[0] = 48 ∧ (s[1] = 120 ∨ s[1] = 88 ∨ s[1] = 111 ∨ s[1] = 79 ∨ s[1] = 98 ∨ s[1] = 66)
  · obtain ⟨h1, h0, hc⟩ := h
    have e0 := drop_cons s 0 (by omega)
    have e1 := drop_cons s 1 h1
    rw [List.drop_zero] at e0
    exact of_pre s s[1] (s.data.toList.drop 2) w (e0.trans (by rw [e1, h0])) hc hs
  · refine of_dec s w ?_ (fun h1 h2 => h ⟨h1, h2⟩) hs
    cases ho : isOth s with
    | false => rfl
    | true =>
      exfalso
      obtain ⟨c1, r, e, hb, h65⟩ := isOth_head ho
      have h1 : 1 < s.size := by rw [← ofl, e]; simp
      have e0 := get_data s 0 (by omega)
      have e1 := get_data s 1 h1
      rw [e] at e0 e1
      refine h ⟨h1, (Option.some.inj e0).symm, ?_⟩
      have hc : c1 = s[1] := Option.some.inj e1
      rw [← hc]
      exact (oth_letter c1).1 ⟨hb, h65⟩
end Go.Proofs.YthnchejhcmpipaaDoor
