/- Contract of the reader's plain. Conditions as in ..LC; the table of blanks; no fault noted before. -/
import Derived.Test.YteejjkfmmhegmaaGreatDoorLPE
import Derived.Test.YteejjkfmmhegmaaGreatDoorLPF
namespace Go.Proofs.YteejjkfmmhegmaaGreatDoor
open Go.RowKit

set_option maxRecDepth 20000 in
set_option maxHeartbeats 1000000 in
/-- is: it only draws. -/
theorem is_q (b : Nat) (s : ByteArray) (x : Rd) (l : List UInt8) (w : World) (hx : RdAt w b s x) (hp : x.at' ≤ s.size) :
    Calls Tryz.prog 136 #[.pointer (some ⟨b, 0, none⟩), .string ⟨l.toArray⟩] w fun e w' => e = .returned (.bool (Lib.hasPrefix (s.data.toList.drop x.at') l)) ∧ ∃ m, w' = w.drewN m := by
  obtain ⟨q, line, fail, code⟩ := x
  simp only at hp ⊢
  have hh : ∀ W, Calls Tryz.prog 45 #[.string (s.extract q s.size), .string ⟨l.toArray⟩] W fun e w' => e = .returned (.bool (Lib.hasPrefix (s.data.toList.drop q) l)) ∧ w' = W := fun W => by
    have := Tryz.strings_HasPrefix (s.extract q s.size) ⟨l.toArray⟩ W
    rw [extract_drop] at this
    exact this
  generalize Lib.hasPrefix (s.data.toList.drop q) l = r at *
  have HH := Lib.hid hh
  obtain ⟨c0, c1, c2, c3, c4, f0, f1, f2, f3, f4⟩ := RdAt.facts hx
  clear hh hx
  go_enter Tryz.func136, Tryz.ntmps136
  go_wp2_with fail
  go_quiet ((go_at_call 45; exact Calls.quiet_of_same (HH.out _)))
  go_wp2_with fail
  go_ret
  exact ⟨rfl, _, rfl⟩
theorem nameL_no {dash : Bool} {l : List UInt8} (h : ¬ (0 < (nx l).2 ∧ startC (nx l).1 = true)) : nameL dash l = 0 := by unfold nameL; rw [if_neg h]
theorem nameL_yes {dash : Bool} {l : List UInt8} (h : 0 < (nx l).2 ∧ startC (nx l).1 = true) : 0 < nameL dash l := by
  unfold nameL
  rw [if_pos h]
  obtain ⟨n, h1, h2, _⟩ := goesP_pos (goesP_start (dash := dash) h)
  rw [partsL_yes (goesP_start h), h1, Int.toNat_natCast]
  omega
theorem nameL_le (dash : Bool) (l : List UInt8) : nameL dash l ≤ l.length := by
  unfold nameL
  split
  · exact partLen_le _ _ _
  · exact Nat.zero_le _
theorem aft_bad {l : List UInt8} {kind : Int} {n : Nat} (h : (nx (l.drop n)).2 < 0) : aft l kind n = .bad n 502 := by unfold aft; rw [if_pos h]
theorem aft_fine {l : List UInt8} {kind : Int} {n : Nat} (h : 0 ≤ (nx (l.drop n)).2) : aft l kind n = .fine kind n := by unfold aft; rw [if_neg (by omega)]
theorem TkP.of_odd {b : Nat} {s : ByteArray} {p : Nat} {line : Bool} {fl : Int} {w w' : World} {O : TkO} {off : Nat} {code : Int} {x' : Rd} {kd : Int} (hO : O = .bad off code) (h1 : Tst b s w x' w') (h2 : x'.line = line) (h3 : x'.fail = ((p + off : Nat) : Int)) (h4 : x'.code = code) :
    TkP b s p line fl w O (.returned (.tuple #[.int .i64 kd, .bool false])) w' := by
  rw [hO]
  exact ⟨x', kd, rfl, h1, h2, h3, h4⟩
theorem TkP.of_fine {b : Nat} {s : ByteArray} {p q : Nat} {line : Bool} {fl : Int} {w w' : World} {O : TkO} {n : Nat} {kd : Int} (hO : O = .fine kd n) (hq : p + n = q) (h1 : Tst b s w ⟨q, line, fl, 0⟩ w') :
    TkP b s p line fl w O (.returned (.tuple #[.int .i64 kd, .bool true])) w' := by
  subst hq
  rw [hO]
  exact ⟨rfl, h1⟩
theorem txt_kind {l : List UInt8} {kd : Int} {n : Nat} (h : txt l = .fine kd n) : kd = 4 := by
  unfold txt at h
  split at h
  · cases h; rfl
  · split at h <;> cases h
set_option maxRecDepth 20000 in
set_option maxHeartbeats 8000000 in
theorem rplain_any (b : Nat) (s : ByteArray) (p : Nat) (line : Bool) (fl : Int) (goal : Int) (hg : goal = 1 ∨ goal = 2) (w : World) (hx : RdAt w b s ⟨p, line, fl, 0⟩) (hr : Ready b w) (hS : Spc b w) (hs : s.size ≤ 16777216) (hp : p ≤ s.size) :
    Calls Tryz.prog 112 #[.pointer (some ⟨b, 0, none⟩), .int .i64 goal] w fun e w' => TkP b s p line fl w (plainT goal (s.data.toList.drop p)) e w' := by
  have HK := Lib.hid (show Tst b s w ⟨p, line, fl, 0⟩ w from ⟨hx, But.refl _ _, hr, hp⟩)
  have hbl := hx.lt
  have hO : plainT goal (s.data.toList.drop p) = plainT goal (s.data.toList.drop p) := rfl
  conv at hO => rhs; unfold plainT
  rw [List.drop_drop] at hO
  generalize plainT goal (s.data.toList.drop p) = O at *
  have HO := Lib.hid hO
  have HS := Lib.hid hS
  have HGO := Lib.hid hg
  clear hO hx hr hS hg
  obtain ⟨c0, c1, c2, c3, c4, f0, f1, f2, f3, f4⟩ := RdAt.facts HK.out.rd
  go_enter Tryz.func112, Tryz.ntmps112
  go_upto_region 1 with fail
  by_cases hend : p = s.size
  · have HN := Lib.hid (show O = .fine 0 0 by rw [HO.out, if_pos (List.drop_of_length_le (by rw [ofl]; omega))])
    have be : (((p : Nat) : Int) == ((s.size : Nat) : Int)) = true := by rw [beq_iff_eq]; omega
    clear HO hend
    go_quiet (fail)
    go_wp2_with fail
    go_ret2
    exact TkP.of_fine HN.out (Nat.add_zero _) (HK.out.bel (bel_drewN (Below.refl _ _) _))
  · have hne : s.data.toList.drop p ≠ [] := fun h => by
      have := congrArg List.length h
      rw [List.length_drop, ofl] at this
      simp at this
      omega
    replace HO := Lib.hid (HO.out.trans (by rw [if_neg hne]))
    have be : (((p : Nat) : Int) == ((s.size : Nat) : Int)) = false := by rw [beq_eq_false_iff_ne]; omega
    have hlt : p < s.size := by omega
    have hp1 : p + 1 ≤ s.size := hlt
    clear hne hend
    go_quiet (fail)
    go_upto_region 3 with fail
    generalize hwd : World.drewN _ _ = w3 at *
    have hbd : Below w.heap.size w w3 := by rw [← hwd]; exact bel_drewN (Below.refl _ _) _
    clear hwd c0 c1 c2 c3 c4 f0 f1 f2 f3 f4
    replace HK := Lib.hid (HK.out.bel hbd)
    clear hbd
    obtain ⟨c0, c1, c2, c3, c4, f0, f1, f2, f3, f4⟩ := RdAt.facts HK.out.rd
    cases h96 : Lib.hasPrefix (s.data.toList.drop p) [96] with
    | true =>
      have HO2 := Lib.hid (HO.out.trans (by rw [if_pos h96]))
      have hT := template_any b s p line fl
      cases hTP : tpl (s.data.toList.drop (p + 1)) with
      | fine n h =>
        rw [hTP] at hT
        simp only [TpPost] at hT
        have HT := Lib.hid (fun W hx hr => hT W hx hr hs hlt)
        have HN := Lib.hid (show O = .fine (if h = true then 8 else 7) (1 + n) by rw [HO2.out, hTP]; rfl)
        clear hT HO HO2 hTP
        go_upto_region 4 with (go_at_call 136; refine (is_lit b s _ _ _ HK.out.rd HK.out.le).mono ?_; rintro e w9 ⟨rfl, hb⟩; clear c0 c1 c2 c3 c4 f0 f1 f2 f3 f4; replace HK := Lib.hid (HK.out.bel hb); clear hb; obtain ⟨c0, c1, c2, c3, c4, f0, f1, f2, f3, f4⟩ := RdAt.facts HK.out.rd)
        cases h with
        | true =>
          go_wp2_with (go_at_call 134; refine (HT.out _ HK.out.rd HK.out.rdy).mono ?_; rintro e w9 ⟨rfl, hst9⟩; clear c0 c1 c2 c3 c4 f0 f1 f2 f3 f4; replace HK := Lib.hid (HK.out.step hst9.rd hst9.but hst9.le); clear hst9; obtain ⟨c0, c1, c2, c3, c4, f0, f1, f2, f3, f4⟩ := RdAt.facts HK.out.rd)
          go_ret2
          exact TkP.of_fine HN.out (by omega) HK.out
        | false =>
          go_wp2_with (go_at_call 134; refine (HT.out _ HK.out.rd HK.out.rdy).mono ?_; rintro e w9 ⟨rfl, hst9⟩; clear c0 c1 c2 c3 c4 f0 f1 f2 f3 f4; replace HK := Lib.hid (HK.out.step hst9.rd hst9.but hst9.le); clear hst9; obtain ⟨c0, c1, c2, c3, c4, f0, f1, f2, f3, f4⟩ := RdAt.facts HK.out.rd)
          go_ret2
          exact TkP.of_fine HN.out (by omega) HK.out
      | bad off code =>
        rw [hTP] at hT
        simp only [TpPost] at hT
        have HT := Lib.hid (fun W hx hr => hT W hx hr hs hlt)
        have HN := Lib.hid (show O = .bad (if code = 502 then 1 + off else 0) code by rw [HO2.out, hTP]; rfl)
        clear hT HO HO2 hTP
        go_upto_region 4 with (go_at_call 136; refine (is_lit b s _ _ _ HK.out.rd HK.out.le).mono ?_; rintro e w9 ⟨rfl, hb⟩; clear c0 c1 c2 c3 c4 f0 f1 f2 f3 f4; replace HK := Lib.hid (HK.out.bel hb); clear hb; obtain ⟨c0, c1, c2, c3, c4, f0, f1, f2, f3, f4⟩ := RdAt.facts HK.out.rd)
        go_wp2_with (go_at_call 134; refine (HT.out _ HK.out.rd HK.out.rdy).mono ?_; rintro e w9 ⟨x', rfl, hst9, hl9, hf9, hc9⟩)
        go_ret2
        exact TkP.of_odd HN.out (HK.out.step hst9.rd hst9.but hst9.le) hl9 (hf9.trans (tpPlace_eq p off code)) hc9
    | false =>
      replace HO := Lib.hid (HO.out.trans (by rw [if_neg (by rw [h96]; decide)]))
      go_upto_region 8 with (go_at_call 136; refine (is_lit b s _ _ _ HK.out.rd HK.out.le).mono ?_; rintro e w9 ⟨rfl, hb⟩; clear c0 c1 c2 c3 c4 f0 f1 f2 f3 f4; replace HK := Lib.hid (HK.out.bel hb); clear hb; obtain ⟨c0, c1, c2, c3, c4, f0, f1, f2, f3, f4⟩ := RdAt.facts HK.out.rd)
      cases h35 : Lib.hasPrefix (s.data.toList.drop p) [35] with
      | true =>
        have hO2 := HO.out
        rw [if_pos h35] at hO2
        unfold priv at hO2
        rw [List.drop_drop] at hO2
        have HO2 := Lib.hid hO2
        clear hO2 HO
        go_upto_region 10 with (go_at_call 136; refine (is_lit b s _ _ _ HK.out.rd HK.out.le).mono ?_; rintro e w9 ⟨rfl, hb⟩; clear c0 c1 c2 c3 c4 f0 f1 f2 f3 f4; replace HK := Lib.hid (HK.out.bel hb); clear hb; obtain ⟨c0, c1, c2, c3, c4, f0, f1, f2, f3, f4⟩ := RdAt.facts HK.out.rd)
        have hk1 := HK.out.setRd (y := ⟨p + 1, line, fl, 0⟩) 0 (.int .i64 ((p : Int) + 1)) rfl hp1
        go_upto_region 11 with fail
        clear c0 c1 c2 c3 c4 f0 f1 f2 f3 f4 HK
        generalize World.setCell _ _ _ = w6 at *
        have HK := Lib.hid hk1
        clear hk1
        obtain ⟨c0, c1, c2, c3, c4, f0, f1, f2, f3, f4⟩ := RdAt.facts HK.out.rd
        by_cases hneg : (nx (s.data.toList.drop (p + 1))).2 < 0
        · have HN := Lib.hid (show O = .bad 1 502 by rw [HO2.out, if_pos hneg])
          have HBR := Lib.hid hneg
          clear HO2 hneg
          go_wp2_with (go_at_call 140; refine (broken_bad b s _ _ HK.out.rd HK.out.rdy HK.out.le HBR.out).mono ?_; rintro e w9 ⟨rfl, hx9, hb9⟩; clear c0 c1 c2 c3 c4 f0 f1 f2 f3 f4; replace HK := Lib.hid (HK.out.step hx9 hb9 HK.out.le); clear hx9 hb9; obtain ⟨c0, c1, c2, c3, c4, f0, f1, f2, f3, f4⟩ := RdAt.facts HK.out.rd)
          go_ret2
          exact TkP.of_odd HN.out HK.out rfl rfl rfl
        · have HO3 := Lib.hid (HO2.out.trans (by rw [if_neg hneg]))
          have HBR := Lib.hid (show 0 ≤ (nx (s.data.toList.drop (p + 1))).2 by omega)
          clear HO2 hneg
          go_upto_region 13 with (go_at_call 140; refine (broken_good b s _ _ HK.out.rd HK.out.rdy HK.out.le HBR.out).mono ?_; rintro e w9 ⟨rfl, hb⟩; clear c0 c1 c2 c3 c4 f0 f1 f2 f3 f4; replace HK := Lib.hid (HK.out.bel hb); clear hb; obtain ⟨c0, c1, c2, c3, c4, f0, f1, f2, f3, f4⟩ := RdAt.facts HK.out.rd)
          clear HBR
          by_cases hnm : 0 < (nx (s.data.toList.drop (p + 1))).2 ∧ startC (nx (s.data.toList.drop (p + 1))).1 = true
          · have hn0 := nameL_yes (dash := false) hnm
            have hnl := nameL_le false (s.data.toList.drop (p + 1))
            rw [List.length_drop, ofl] at hnl
            have HO4 := Lib.hid (HO3.out.trans (by rw [if_neg (by omega)]))
            have HNM := Lib.hid hnm
            obtain ⟨m, hm⟩ : ∃ m, nameL false (s.data.toList.drop (p + 1)) = m := ⟨_, rfl⟩
            have hqn : p + 1 + nameL false (s.data.toList.drop (p + 1)) ≤ s.size := by omega
            have hqm : p + 1 + m ≤ s.size := by omega
            have HO5 := Lib.hid (HO4.out.trans (by rw [hm]))
            have HM := Lib.hid hm
            clear HO3 HO4 hnm hn0 hnl hm
            go_upto_region 15 with (go_at_call 139; refine (name_yes b s _ _ _ HK.out.rd HK.out.rdy hs HK.out.le HNM.out).mono ?_; rintro e w9 ⟨rfl, hx9, hb9⟩; clear c0 c1 c2 c3 c4 f0 f1 f2 f3 f4; replace HK := Lib.hid (HK.out.step hx9 hb9 hqn); clear hx9 hb9; obtain ⟨c0, c1, c2, c3, c4, f0, f1, f2, f3, f4⟩ := RdAt.facts HK.out.rd)
            rw [HM.out] at HK
            clear c0 c1 c2 c3 c4 f0 f1 f2 f3 f4
            obtain ⟨c0, c1, c2, c3, c4, f0, f1, f2, f3, f4⟩ := RdAt.facts HK.out.rd
            by_cases hneg : (nx (s.data.toList.drop (p + 1 + m))).2 < 0
            · have HN := Lib.hid (show O = .bad (1 + m) 502 by rw [HO5.out]; exact aft_bad (by rw [List.drop_drop]; first | exact hneg | (rw [← Nat.add_assoc]; exact hneg)))
              have HBR := Lib.hid hneg
              clear HO5 hneg
              go_wp2_with (go_at_call 140; refine (broken_bad b s _ _ HK.out.rd HK.out.rdy HK.out.le HBR.out).mono ?_; rintro e w9 ⟨rfl, hx9, hb9⟩; clear c0 c1 c2 c3 c4 f0 f1 f2 f3 f4; replace HK := Lib.hid (HK.out.step hx9 hb9 HK.out.le); clear hx9 hb9; obtain ⟨c0, c1, c2, c3, c4, f0, f1, f2, f3, f4⟩ := RdAt.facts HK.out.rd)
              go_ret2
              exact TkP.of_odd HN.out HK.out rfl (by first | rfl | (simp only; omega)) rfl
            · have hpos : 0 ≤ (nx (s.data.toList.drop (p + 1 + m))).2 := by omega
              have HN := Lib.hid (show O = .fine _ (1 + m) by rw [HO5.out]; exact aft_fine (by rw [List.drop_drop]; first | exact hpos | (rw [← Nat.add_assoc]; exact hpos)))
              have HBR := Lib.hid hpos
              clear HO5 hneg hpos
              go_wp2_with (go_at_call 140; refine (broken_good b s _ _ HK.out.rd HK.out.rdy HK.out.le HBR.out).mono ?_; rintro e w9 ⟨rfl, hb⟩; clear c0 c1 c2 c3 c4 f0 f1 f2 f3 f4; replace HK := Lib.hid (HK.out.bel hb); clear hb; obtain ⟨c0, c1, c2, c3, c4, f0, f1, f2, f3, f4⟩ := RdAt.facts HK.out.rd)
              go_ret2
              exact TkP.of_fine HN.out (by omega) HK.out
          · have HN := Lib.hid (show O = .bad 0 509 by rw [HO3.out, if_pos (nameL_no hnm)])
            have HNM := Lib.hid hnm
            clear HO3 hnm
            go_upto_region 14 with (go_at_call 139; refine (name_no b s _ _ _ HK.out.rd HK.out.rdy HK.out.le HNM.out).mono ?_; rintro e w9 ⟨rfl, hb⟩; clear c0 c1 c2 c3 c4 f0 f1 f2 f3 f4; replace HK := Lib.hid (HK.out.bel hb); clear hb; obtain ⟨c0, c1, c2, c3, c4, f0, f1, f2, f3, f4⟩ := RdAt.facts HK.out.rd)
            go_wp2_with (go_at_call 138; refine (stop_any b s _ _ _ _ HK.out.rd).mono ?_; rintro e w9 ⟨rfl, hx9, hb9⟩; clear c0 c1 c2 c3 c4 f0 f1 f2 f3 f4; replace HK := Lib.hid (HK.out.step hx9 hb9 HK.out.le); clear hx9 hb9; obtain ⟨c0, c1, c2, c3, c4, f0, f1, f2, f3, f4⟩ := RdAt.facts HK.out.rd)
            go_ret2
            exact TkP.of_odd HN.out HK.out rfl (by simp only [Nat.add_zero]) rfl
      | false =>
        replace HO := Lib.hid (HO.out.trans (by rw [if_neg (by rw [h35]; decide)]))
        go_upto_region 16 with (go_at_call 136; refine (is_lit b s _ _ _ HK.out.rd HK.out.le).mono ?_; rintro e w9 ⟨rfl, hb⟩; clear c0 c1 c2 c3 c4 f0 f1 f2 f3 f4; replace HK := Lib.hid (HK.out.bel hb); clear hb; obtain ⟨c0, c1, c2, c3, c4, f0, f1, f2, f3, f4⟩ := RdAt.facts HK.out.rd)
        obtain ⟨D, hD⟩ : ∃ D, D = (digAt (s.data.toList.drop p) || (Lib.hasPrefix (s.data.toList.drop p) [46] && digAt (s.data.toList.drop (p + 1)))) := ⟨_, rfl⟩
        have HD := Lib.hid hD
        clear hD
        have HD1 := Lib.hid (fun W z hz => ldigit_any s p W z hz)
        have HD2 := Lib.hid (fun W z hz => ldigit_any s (p + 1) W z hz)
        cases hd1 : digAt (s.data.toList.drop p) with
        | true =>
          rw [hd1] at HD1
          have HO2 := Lib.hid (HO.out.trans (by rw [if_pos (.inl hd1)]))
          clear HO HD HD2
          go_cut [62] from 63 to 72 (fun v wx => v = .bool true ∧ Tst b s w ⟨p, line, fl, 0⟩ wx)
          case first =>
            go_quiet ((go_at_call 141; exact Calls.quiet_of_same ((HD1.out _ _ (by omega)).mono (fun _ _ h => ⟨h.1, h.2.symm⟩))))
            go_wp2_with fail
            go_meet
            exact ⟨rfl, HK.out.bel (bel_drewN (Below.refl _ _) _)⟩
          case rest =>
            obtain ⟨rfl, hst⟩ := hcut
            clear c0 c1 c2 c3 c4 f0 f1 f2 f3 f4 HK
            have HK := Lib.hid hst
            clear hst
            obtain ⟨c0, c1, c2, c3, c4, f0, f1, f2, f3, f4⟩ := RdAt.facts HK.out.rd
            have hO2 := HO2.out
            unfold numT at hO2
            have hnl : numL (s.data.toList.drop p) ≤ (s.data.toList.drop p).length := by
              unfold numL
              split
              · exact Nat.zero_le _
              · exact longL_le _
            rw [List.length_drop, ofl] at hnl
            obtain ⟨m, hm⟩ : ∃ m, numL (s.data.toList.drop p) = m := ⟨_, rfl⟩
            by_cases hm0 : m = 0
            · have HN := Lib.hid (show O = .bad 0 503 by rw [hO2, if_pos (hm.trans hm0)])
              have HNU := Lib.hid (hm.trans hm0)
              clear hO2 HO2 hm hm0 hnl
              go_wp2_with (go_at_call 142; refine (number_bad b s _ _ HK.out.rd HK.out.rdy hs HK.out.le HNU.out).mono ?_; rintro e w9 ⟨rfl, hx9, hb9⟩; clear c0 c1 c2 c3 c4 f0 f1 f2 f3 f4; replace HK := Lib.hid (HK.out.step hx9 hb9 HK.out.le); clear hx9 hb9; obtain ⟨c0, c1, c2, c3, c4, f0, f1, f2, f3, f4⟩ := RdAt.facts HK.out.rd)
              go_ret2
              exact TkP.of_odd HN.out HK.out rfl (by simp only [Nat.add_zero]) rfl
            · have HO5 := Lib.hid (hO2.trans (by rw [if_neg (fun h => hm0 (hm.symm.trans h)), hm]))
              have HNU := Lib.hid (show 0 < numL (s.data.toList.drop p) by omega)
              have hqn : p + numL (s.data.toList.drop p) ≤ s.size := by omega
              have hqm : p + m ≤ s.size := by omega
              have HM := Lib.hid hm
              clear hO2 HO2 hm hm0 hnl
              by_cases hneg : (nx (s.data.toList.drop (p + m))).2 < 0
              · have HN := Lib.hid (show O = .bad m 502 by rw [HO5.out]; exact aft_bad (by rw [List.drop_drop]; exact hneg))
                have HBR := Lib.hid hneg
                clear HO5 hneg
                go_wp2_with (first | (go_at_call 142; refine (number_good b s _ _ HK.out.rd HK.out.rdy hs HK.out.le HNU.out).mono ?_; rintro e w9 ⟨rfl, hx9, hb9⟩; clear c0 c1 c2 c3 c4 f0 f1 f2 f3 f4; replace HK := Lib.hid (HK.out.step hx9 hb9 hqn); clear hx9 hb9; rw [HM.out] at HK; obtain ⟨c0, c1, c2, c3, c4, f0, f1, f2, f3, f4⟩ := RdAt.facts HK.out.rd) | (go_at_call 140; refine (broken_bad b s _ _ HK.out.rd HK.out.rdy HK.out.le HBR.out).mono ?_; rintro e w9 ⟨rfl, hx9, hb9⟩; clear c0 c1 c2 c3 c4 f0 f1 f2 f3 f4; replace HK := Lib.hid (HK.out.step hx9 hb9 HK.out.le); clear hx9 hb9; obtain ⟨c0, c1, c2, c3, c4, f0, f1, f2, f3, f4⟩ := RdAt.facts HK.out.rd))
                go_ret2
                exact TkP.of_odd HN.out HK.out rfl (by simp only) rfl
              · have hpos : 0 ≤ (nx (s.data.toList.drop (p + m))).2 := by omega
                have HN := Lib.hid (show O = .fine 3 m by rw [HO5.out]; exact aft_fine (by rw [List.drop_drop]; exact hpos))
                have HBR := Lib.hid hpos
                clear HO5 hneg hpos
                go_wp2_with (first | (go_at_call 142; refine (number_good b s _ _ HK.out.rd HK.out.rdy hs HK.out.le HNU.out).mono ?_; rintro e w9 ⟨rfl, hx9, hb9⟩; clear c0 c1 c2 c3 c4 f0 f1 f2 f3 f4; replace HK := Lib.hid (HK.out.step hx9 hb9 hqn); clear hx9 hb9; rw [HM.out] at HK; obtain ⟨c0, c1, c2, c3, c4, f0, f1, f2, f3, f4⟩ := RdAt.facts HK.out.rd) | (go_at_call 140; refine (broken_good b s _ _ HK.out.rd HK.out.rdy HK.out.le HBR.out).mono ?_; rintro e w9 ⟨rfl, hb⟩; clear c0 c1 c2 c3 c4 f0 f1 f2 f3 f4; replace HK := Lib.hid (HK.out.bel hb); clear hb; obtain ⟨c0, c1, c2, c3, c4, f0, f1, f2, f3, f4⟩ := RdAt.facts HK.out.rd))
                go_ret2
                exact TkP.of_fine HN.out rfl HK.out
        | false =>
          rw [hd1] at HD1
          go_cut [62] from 63 to 72 (fun v wx => v = .bool false ∧ Tst b s w ⟨p, line, fl, 0⟩ wx)
          case first =>
            go_quiet ((go_at_call 141; exact Calls.quiet_of_same ((HD1.out _ _ (by omega)).mono (fun _ _ h => ⟨h.1, h.2.symm⟩))))
            go_wp2_with fail
            go_meet
            exact ⟨rfl, HK.out.bel (bel_drewN (Below.refl _ _) _)⟩
          case rest =>
            obtain ⟨rfl, hst⟩ := hcut
            clear c0 c1 c2 c3 c4 f0 f1 f2 f3 f4 HK
            have HK := Lib.hid hst
            clear hst
            obtain ⟨c0, c1, c2, c3, c4, f0, f1, f2, f3, f4⟩ := RdAt.facts HK.out.rd
            cases h46 : Lib.hasPrefix (s.data.toList.drop p) [46] && digAt (s.data.toList.drop (p + 1)) with
            | true =>
              have h46b := Bool.and_eq_true_iff.1 h46
              obtain ⟨h46c, h46d⟩ := h46b
              have HO2 := Lib.hid (HO.out.trans (by rw [if_pos (.inr ⟨h46c, h46d⟩)]))
              rw [h46d] at HD2
              clear HO HD HD1 h46 h46d
              have hw1 : IntKind.i64.wrap ((p : Int) + 1) = (p : Int) + 1 := IntWalk.i64_in _ (by omega)
              go_upto_region 17 with fail
              go_cut [62] from 73 to 87 (fun v wx => v = .bool true ∧ Tst b s w ⟨p, line, fl, 0⟩ wx)
              case first =>
                have hiq : ∀ n, Calls Tryz.prog 136 #[.pointer (some ⟨b, 0, none⟩), .string ⟨#[46]⟩] (wc.drewN n) fun e w' => e = .returned (.bool true) ∧ ∃ m, w' = (wc.drewN n).drewN m := fun n => by
                  have := is_q b s ⟨p, line, fl, 0⟩ [46] (wc.drewN n) (HK.out.rd.bel (bel_drewN (Below.refl _ _) _)) HK.out.le
                  simp only at this
                  rw [h46c] at this
                  exact this
                have HIQ := Lib.hid hiq
                clear hiq h46c
                go_quiet ((first | (go_at_call 136; exact Calls.quiet_of (HIQ.out _)) | (go_at_call 141; exact Calls.quiet_of_same ((HD2.out _ _ (by omega)).mono (fun _ _ h => ⟨h.1, h.2.symm⟩)))))
                go_wp2_with fail
                go_meet
                exact ⟨rfl, HK.out.bel (bel_drewN (Below.refl _ _) _)⟩
              case rest =>
                obtain ⟨rfl, hst⟩ := hcut
                clear c0 c1 c2 c3 c4 f0 f1 f2 f3 f4 HK
                have HK := Lib.hid hst
                clear hst
                obtain ⟨c0, c1, c2, c3, c4, f0, f1, f2, f3, f4⟩ := RdAt.facts HK.out.rd
                clear hw1
                have hO2 := HO2.out
                unfold numT at hO2
                have hnl : numL (s.data.toList.drop p) ≤ (s.data.toList.drop p).length := by
                  unfold numL
                  split
                  · exact Nat.zero_le _
                  · exact longL_le _
                rw [List.length_drop, ofl] at hnl
                obtain ⟨m, hm⟩ : ∃ m, numL (s.data.toList.drop p) = m := ⟨_, rfl⟩
                by_cases hm0 : m = 0
                · have HN := Lib.hid (show O = .bad 0 503 by rw [hO2, if_pos (hm.trans hm0)])
                  have HNU := Lib.hid (hm.trans hm0)
                  clear hO2 HO2 hm hm0 hnl
                  go_wp2_with (go_at_call 142; refine (number_bad b s _ _ HK.out.rd HK.out.rdy hs HK.out.le HNU.out).mono ?_; rintro e w9 ⟨rfl, hx9, hb9⟩; clear c0 c1 c2 c3 c4 f0 f1 f2 f3 f4; replace HK := Lib.hid (HK.out.step hx9 hb9 HK.out.le); clear hx9 hb9; obtain ⟨c0, c1, c2, c3, c4, f0, f1, f2, f3, f4⟩ := RdAt.facts HK.out.rd)
                  go_ret2
                  exact TkP.of_odd HN.out HK.out rfl (by simp only [Nat.add_zero]) rfl
                · have HO5 := Lib.hid (hO2.trans (by rw [if_neg (fun h => hm0 (hm.symm.trans h)), hm]))
                  have HNU := Lib.hid (show 0 < numL (s.data.toList.drop p) by omega)
                  have hqn : p + numL (s.data.toList.drop p) ≤ s.size := by omega
                  have hqm : p + m ≤ s.size := by omega
                  have HM := Lib.hid hm
                  clear hO2 HO2 hm hm0 hnl
                  by_cases hneg : (nx (s.data.toList.drop (p + m))).2 < 0
                  · have HN := Lib.hid (show O = .bad m 502 by rw [HO5.out]; exact aft_bad (by rw [List.drop_drop]; exact hneg))
                    have HBR := Lib.hid hneg
                    clear HO5 hneg
                    go_wp2_with (first | (go_at_call 142; refine (number_good b s _ _ HK.out.rd HK.out.rdy hs HK.out.le HNU.out).mono ?_; rintro e w9 ⟨rfl, hx9, hb9⟩; clear c0 c1 c2 c3 c4 f0 f1 f2 f3 f4; replace HK := Lib.hid (HK.out.step hx9 hb9 hqn); clear hx9 hb9; rw [HM.out] at HK; obtain ⟨c0, c1, c2, c3, c4, f0, f1, f2, f3, f4⟩ := RdAt.facts HK.out.rd) | (go_at_call 140; refine (broken_bad b s _ _ HK.out.rd HK.out.rdy HK.out.le HBR.out).mono ?_; rintro e w9 ⟨rfl, hx9, hb9⟩; clear c0 c1 c2 c3 c4 f0 f1 f2 f3 f4; replace HK := Lib.hid (HK.out.step hx9 hb9 HK.out.le); clear hx9 hb9; obtain ⟨c0, c1, c2, c3, c4, f0, f1, f2, f3, f4⟩ := RdAt.facts HK.out.rd))
                    go_ret2
                    exact TkP.of_odd HN.out HK.out rfl (by simp only) rfl
                  · have hpos : 0 ≤ (nx (s.data.toList.drop (p + m))).2 := by omega
                    have HN := Lib.hid (show O = .fine 3 m by rw [HO5.out]; exact aft_fine (by rw [List.drop_drop]; exact hpos))
                    have HBR := Lib.hid hpos
                    clear HO5 hneg hpos
                    go_wp2_with (first | (go_at_call 142; refine (number_good b s _ _ HK.out.rd HK.out.rdy hs HK.out.le HNU.out).mono ?_; rintro e w9 ⟨rfl, hx9, hb9⟩; clear c0 c1 c2 c3 c4 f0 f1 f2 f3 f4; replace HK := Lib.hid (HK.out.step hx9 hb9 hqn); clear hx9 hb9; rw [HM.out] at HK; obtain ⟨c0, c1, c2, c3, c4, f0, f1, f2, f3, f4⟩ := RdAt.facts HK.out.rd) | (go_at_call 140; refine (broken_good b s _ _ HK.out.rd HK.out.rdy HK.out.le HBR.out).mono ?_; rintro e w9 ⟨rfl, hb⟩; clear c0 c1 c2 c3 c4 f0 f1 f2 f3 f4; replace HK := Lib.hid (HK.out.bel hb); clear hb; obtain ⟨c0, c1, c2, c3, c4, f0, f1, f2, f3, f4⟩ := RdAt.facts HK.out.rd))
                    go_ret2
                    exact TkP.of_fine HN.out rfl HK.out
            | false =>
              have h46n : ¬ (digAt (s.data.toList.drop p) = true ∨ (Lib.hasPrefix (s.data.toList.drop p) [46] = true ∧ digAt (s.data.toList.drop (p + 1)) = true)) := by
                rintro (h | ⟨h, h'⟩)
                · rw [hd1] at h; cases h
                · rw [h, h'] at h46; cases h46
              replace HO := Lib.hid (HO.out.trans (by rw [if_neg h46n]))
              clear HD HD1 h46n
              go_upto_region 17 with fail
              go_cut [62] from 73 to 87 (fun v wx => v = .bool false ∧ Tst b s w ⟨p, line, fl, 0⟩ wx)
              case first =>
                cases h46c : Lib.hasPrefix (s.data.toList.drop p) [46] with
                | true =>
                  rw [h46c, Bool.true_and] at h46
                  rw [h46] at HD2
                  clear h46 HO
                  have hw1 : IntKind.i64.wrap ((p : Int) + 1) = (p : Int) + 1 := IntWalk.i64_in _ (by omega)
                  have hiq : ∀ n, Calls Tryz.prog 136 #[.pointer (some ⟨b, 0, none⟩), .string ⟨#[46]⟩] (wc.drewN n) fun e w' => e = .returned (.bool true) ∧ ∃ m, w' = (wc.drewN n).drewN m := fun n => by
                    have := is_q b s ⟨p, line, fl, 0⟩ [46] (wc.drewN n) (HK.out.rd.bel (bel_drewN (Below.refl _ _) _)) HK.out.le
                    simp only at this
                    rw [h46c] at this
                    exact this
                  have HIQ := Lib.hid hiq
                  clear hiq h46c
                  go_quiet ((first | (go_at_call 136; exact Calls.quiet_of (HIQ.out _)) | (go_at_call 141; exact Calls.quiet_of_same ((HD2.out _ _ (by omega)).mono (fun _ _ h => ⟨h.1, h.2.symm⟩)))))
                  go_wp2_with fail
                  go_meet
                  exact ⟨rfl, HK.out.bel (bel_drewN (Below.refl _ _) _)⟩
                | false =>
                  clear h46 HO
                  have hiq : ∀ n, Calls Tryz.prog 136 #[.pointer (some ⟨b, 0, none⟩), .string ⟨#[46]⟩] (wc.drewN n) fun e w' => e = .returned (.bool false) ∧ ∃ m, w' = (wc.drewN n).drewN m := fun n => by
                    have := is_q b s ⟨p, line, fl, 0⟩ [46] (wc.drewN n) (HK.out.rd.bel (bel_drewN (Below.refl _ _) _)) HK.out.le
                    simp only at this
                    rw [h46c] at this
                    exact this
                  have HIQ := Lib.hid hiq
                  clear hiq h46c
                  go_quiet ((first | (go_at_call 136; exact Calls.quiet_of (HIQ.out _)) | (go_at_call 141; exact Calls.quiet_of_same ((HD2.out _ _ (by omega)).mono (fun _ _ h => ⟨h.1, h.2.symm⟩)))))
                  go_wp2_with fail
                  go_meet
                  exact ⟨rfl, HK.out.bel (bel_drewN (Below.refl _ _) _)⟩
              case rest =>
                obtain ⟨rfl, hst⟩ := hcut
                clear c0 c1 c2 c3 c4 f0 f1 f2 f3 f4 HK
                have HK := Lib.hid hst
                clear hst
                obtain ⟨c0, c1, c2, c3, c4, f0, f1, f2, f3, f4⟩ := RdAt.facts HK.out.rd
                clear h46 HD2
                cases h39 : Lib.hasPrefix (s.data.toList.drop p) [39] with
                | true =>
                  have HO2 := Lib.hid (HO.out.trans (by rw [if_pos (.inl h39)]))
                  clear HO
                  go_upto_region 21 with (go_at_call 136; refine (is_lit b s _ _ _ HK.out.rd HK.out.le).mono ?_; rintro e w9 ⟨rfl, hb⟩; clear c0 c1 c2 c3 c4 f0 f1 f2 f3 f4; replace HK := Lib.hid (HK.out.bel hb); clear hb; obtain ⟨c0, c1, c2, c3, c4, f0, f1, f2, f3, f4⟩ := RdAt.facts HK.out.rd)
                  have hX := fun W hx hr => text_any b s p line fl W hx hr hs hlt
                  cases hXO : txt (s.data.toList.drop p) with
                  | fine kd n =>
                    have hkd := txt_kind hXO
                    subst hkd
                    rw [hXO] at hX
                    simp only [TkB] at hX
                    have HT := Lib.hid hX
                    have HN := Lib.hid (show O = .fine 4 n by rw [HO2.out, hXO])
                    clear hX HO2 hXO
                    go_wp2_with (go_at_call 143; refine (HT.out _ HK.out.rd HK.out.rdy).mono ?_; rintro e w9 ⟨rfl, hst9⟩; clear c0 c1 c2 c3 c4 f0 f1 f2 f3 f4; replace HK := Lib.hid (HK.out.step hst9.rd hst9.but hst9.le); clear hst9; obtain ⟨c0, c1, c2, c3, c4, f0, f1, f2, f3, f4⟩ := RdAt.facts HK.out.rd)
                    go_ret2
                    exact TkP.of_fine HN.out rfl HK.out
                  | bad off code =>
                    rw [hXO] at hX
                    simp only [TkB] at hX
                    have HT := Lib.hid hX
                    have HN := Lib.hid (show O = .bad off code by rw [HO2.out, hXO])
                    clear hX HO2 hXO
                    go_wp2_with (go_at_call 143; refine (HT.out _ HK.out.rd HK.out.rdy).mono ?_; rintro e w9 ⟨x', rfl, hst9, hl9, hf9, hc9⟩)
                    go_ret2
                    exact TkP.of_odd HN.out (HK.out.step hst9.rd hst9.but hst9.le) hl9 hf9 hc9
                | false =>
                  go_upto_region 20 with (go_at_call 136; refine (is_lit b s _ _ _ HK.out.rd HK.out.le).mono ?_; rintro e w9 ⟨rfl, hb⟩; clear c0 c1 c2 c3 c4 f0 f1 f2 f3 f4; replace HK := Lib.hid (HK.out.bel hb); clear hb; obtain ⟨c0, c1, c2, c3, c4, f0, f1, f2, f3, f4⟩ := RdAt.facts HK.out.rd)
                  cases h34 : Lib.hasPrefix (s.data.toList.drop p) [34] with
                  | true =>
                    have HO2 := Lib.hid (HO.out.trans (by rw [if_pos (.inr h34)]))
                    clear HO
                    go_upto_region 21 with (go_at_call 136; refine (is_lit b s _ _ _ HK.out.rd HK.out.le).mono ?_; rintro e w9 ⟨rfl, hb⟩; clear c0 c1 c2 c3 c4 f0 f1 f2 f3 f4; replace HK := Lib.hid (HK.out.bel hb); clear hb; obtain ⟨c0, c1, c2, c3, c4, f0, f1, f2, f3, f4⟩ := RdAt.facts HK.out.rd)
                    have hX := fun W hx hr => text_any b s p line fl W hx hr hs hlt
                    cases hXO : txt (s.data.toList.drop p) with
                    | fine kd n =>
                      have hkd := txt_kind hXO
                      subst hkd
                      rw [hXO] at hX
                      simp only [TkB] at hX
                      have HT := Lib.hid hX
                      have HN := Lib.hid (show O = .fine 4 n by rw [HO2.out, hXO])
                      clear hX HO2 hXO
                      go_wp2_with (go_at_call 143; refine (HT.out _ HK.out.rd HK.out.rdy).mono ?_; rintro e w9 ⟨rfl, hst9⟩; clear c0 c1 c2 c3 c4 f0 f1 f2 f3 f4; replace HK := Lib.hid (HK.out.step hst9.rd hst9.but hst9.le); clear hst9; obtain ⟨c0, c1, c2, c3, c4, f0, f1, f2, f3, f4⟩ := RdAt.facts HK.out.rd)
                      go_ret2
                      exact TkP.of_fine HN.out rfl HK.out
                    | bad off code =>
                      rw [hXO] at hX
                      simp only [TkB] at hX
                      have HT := Lib.hid hX
                      have HN := Lib.hid (show O = .bad off code by rw [HO2.out, hXO])
                      clear hX HO2 hXO
                      go_wp2_with (go_at_call 143; refine (HT.out _ HK.out.rd HK.out.rdy).mono ?_; rintro e w9 ⟨x', rfl, hst9, hl9, hf9, hc9⟩)
                      go_ret2
                      exact TkP.of_odd HN.out (HK.out.step hst9.rd hst9.but hst9.le) hl9 hf9 hc9
                  | false =>
                    replace HO := Lib.hid (HO.out.trans (by rw [if_neg (by rw [h39, h34]; decide)]))
                    go_upto_region 22 with (go_at_call 136; refine (is_lit b s _ _ _ HK.out.rd HK.out.le).mono ?_; rintro e w9 ⟨rfl, hb⟩; clear c0 c1 c2 c3 c4 f0 f1 f2 f3 f4; replace HK := Lib.hid (HK.out.bel hb); clear hb; obtain ⟨c0, c1, c2, c3, c4, f0, f1, f2, f3, f4⟩ := RdAt.facts HK.out.rd)
                    cases hrx : decide (goal = 2 ∧ Lib.hasPrefix (s.data.toList.drop p) [47] = true) with
                    | true =>
                      obtain ⟨rfl, h47⟩ := of_decide_eq_true hrx
                      have HO2 := Lib.hid (HO.out.trans (by rw [if_pos ⟨rfl, h47⟩]))
                      clear HO hrx
                      go_upto_region 23 with (go_at_call 136; refine (is_lit b s _ _ _ HK.out.rd HK.out.le).mono ?_; rintro e w9 ⟨rfl, hb⟩; clear c0 c1 c2 c3 c4 f0 f1 f2 f3 f4; replace HK := Lib.hid (HK.out.bel hb); clear hb; obtain ⟨c0, c1, c2, c3, c4, f0, f1, f2, f3, f4⟩ := RdAt.facts HK.out.rd)
                      have hX := fun W hx hr => regex_any b s p line fl W hx hr hs hlt
                      cases hXO : rgx true false (s.data.toList.drop (p + 1)) with
                      | fine n h =>
                        rw [hXO] at hX
                        simp only [RgPost] at hX
                        have HT := Lib.hid hX
                        have HO5 := Lib.hid (show O = aft (s.data.toList.drop p) 6 (1 + n) by rw [HO2.out, hXO]; rfl)
                        clear hX HO2 hXO
                        by_cases hneg : (nx (s.data.toList.drop (p + 1 + n))).2 < 0
                        · have HN := Lib.hid (show O = .bad (1 + n) 502 by rw [HO5.out]; exact aft_bad (by rw [List.drop_drop, ← Nat.add_assoc]; exact hneg))
                          have HBR := Lib.hid hneg
                          clear HO5 hneg
                          go_wp2_with (first | (go_at_call 144; refine (HT.out _ HK.out.rd HK.out.rdy).mono ?_; rintro e w9 ⟨rfl, hst9⟩; clear c0 c1 c2 c3 c4 f0 f1 f2 f3 f4; replace HK := Lib.hid (HK.out.step hst9.rd hst9.but hst9.le); clear hst9; obtain ⟨c0, c1, c2, c3, c4, f0, f1, f2, f3, f4⟩ := RdAt.facts HK.out.rd) | (go_at_call 140; refine (broken_bad b s _ _ HK.out.rd HK.out.rdy HK.out.le HBR.out).mono ?_; rintro e w9 ⟨rfl, hx9, hb9⟩; clear c0 c1 c2 c3 c4 f0 f1 f2 f3 f4; replace HK := Lib.hid (HK.out.step hx9 hb9 HK.out.le); clear hx9 hb9; obtain ⟨c0, c1, c2, c3, c4, f0, f1, f2, f3, f4⟩ := RdAt.facts HK.out.rd))
                          go_ret2
                          exact TkP.of_odd HN.out HK.out rfl (by first | rfl | (simp only; omega)) rfl
                        · have hpos : 0 ≤ (nx (s.data.toList.drop (p + 1 + n))).2 := by omega
                          have HN := Lib.hid (show O = .fine 6 (1 + n) by rw [HO5.out]; exact aft_fine (by rw [List.drop_drop, ← Nat.add_assoc]; exact hpos))
                          have HBR := Lib.hid hpos
                          clear HO5 hneg hpos
                          go_wp2_with (first | (go_at_call 144; refine (HT.out _ HK.out.rd HK.out.rdy).mono ?_; rintro e w9 ⟨rfl, hst9⟩; clear c0 c1 c2 c3 c4 f0 f1 f2 f3 f4; replace HK := Lib.hid (HK.out.step hst9.rd hst9.but hst9.le); clear hst9; obtain ⟨c0, c1, c2, c3, c4, f0, f1, f2, f3, f4⟩ := RdAt.facts HK.out.rd) | (go_at_call 140; refine (broken_good b s _ _ HK.out.rd HK.out.rdy HK.out.le HBR.out).mono ?_; rintro e w9 ⟨rfl, hb⟩; clear c0 c1 c2 c3 c4 f0 f1 f2 f3 f4; replace HK := Lib.hid (HK.out.bel hb); clear hb; obtain ⟨c0, c1, c2, c3, c4, f0, f1, f2, f3, f4⟩ := RdAt.facts HK.out.rd))
                          go_ret2
                          exact TkP.of_fine HN.out (by omega) HK.out
                      | bad off code =>
                        rw [hXO] at hX
                        simp only [RgPost] at hX
                        have HT := Lib.hid hX
                        have HN := Lib.hid (show O = .bad (if code = 502 then 1 + off else 0) code by rw [HO2.out, hXO]; rfl)
                        clear hX HO2 hXO
                        go_wp2_with (go_at_call 144; refine (HT.out _ HK.out.rd HK.out.rdy).mono ?_; rintro e w9 ⟨x', rfl, hst9, hl9, hf9, hc9⟩)
                        go_ret2
                        exact TkP.of_odd HN.out (HK.out.step hst9.rd hst9.but hst9.le) hl9 (hf9.trans (tpPlace_eq p off code)) hc9
                    | false =>
                      have hrx2 := of_decide_eq_false hrx
                      replace HO := Lib.hid (HO.out.trans (by rw [if_neg hrx2]))
                      go_cut [102] from 103 to 108 (fun v wx => v = .bool false ∧ Tst b s w ⟨p, line, fl, 0⟩ wx)
                      case first =>
                        rcases HGO.out with rfl | rfl
                        · clear HO hrx hrx2
                          go_wp2_with fail
                          go_meet
                          exact ⟨rfl, HK.out⟩
                        · cases h47 : Lib.hasPrefix (s.data.toList.drop p) [47] with
                          | true => exact absurd ⟨rfl, h47⟩ hrx2
                          | false =>
                            clear HO hrx hrx2
                            go_wp2_with (go_at_call 136; refine (is_lit b s _ _ _ HK.out.rd HK.out.le).mono ?_; rintro e w9 ⟨rfl, hb⟩; clear c0 c1 c2 c3 c4 f0 f1 f2 f3 f4; replace HK := Lib.hid (HK.out.bel hb); clear hb; obtain ⟨c0, c1, c2, c3, c4, f0, f1, f2, f3, f4⟩ := RdAt.facts HK.out.rd)
                            go_meet
                            exact ⟨by first | rfl | rw [h47], HK.out⟩
                      case rest =>
                        obtain ⟨rfl, hst⟩ := hcut
                        clear c0 c1 c2 c3 c4 f0 f1 f2 f3 f4 HK
                        have HK := Lib.hid hst
                        clear hst
                        obtain ⟨c0, c1, c2, c3, c4, f0, f1, f2, f3, f4⟩ := RdAt.facts HK.out.rd
                        clear hrx hrx2
                        by_cases hnm : 0 < (nx (s.data.toList.drop p)).2 ∧ startC (nx (s.data.toList.drop p)).1 = true
                        · have hn0 := nameL_yes (dash := false) hnm
                          have hnl := nameL_le false (s.data.toList.drop p)
                          rw [List.length_drop, ofl] at hnl
                          have HO4 := Lib.hid (HO.out.trans (by rw [if_pos (by omega)]))
                          have HNM := Lib.hid hnm
                          obtain ⟨m, hm⟩ : ∃ m, nameL false (s.data.toList.drop p) = m := ⟨_, rfl⟩
                          have hqn : p + nameL false (s.data.toList.drop p) ≤ s.size := by omega
                          have hqm : p + m ≤ s.size := by omega
                          have HO5 := Lib.hid (HO4.out.trans (by rw [hm]))
                          have HM := Lib.hid hm
                          clear HO HO4 hnm hn0 hnl hm
                          go_upto_region 25 with (go_at_call 139; refine (name_yes b s _ _ _ HK.out.rd HK.out.rdy hs HK.out.le HNM.out).mono ?_; rintro e w9 ⟨rfl, hx9, hb9⟩; clear c0 c1 c2 c3 c4 f0 f1 f2 f3 f4; replace HK := Lib.hid (HK.out.step hx9 hb9 hqn); clear hx9 hb9; obtain ⟨c0, c1, c2, c3, c4, f0, f1, f2, f3, f4⟩ := RdAt.facts HK.out.rd)
                          rw [HM.out] at HK
                          clear c0 c1 c2 c3 c4 f0 f1 f2 f3 f4
                          obtain ⟨c0, c1, c2, c3, c4, f0, f1, f2, f3, f4⟩ := RdAt.facts HK.out.rd
                          by_cases hneg : (nx (s.data.toList.drop (p + m))).2 < 0
                          · have HN := Lib.hid (show O = .bad (m) 502 by rw [HO5.out]; exact aft_bad (by rw [List.drop_drop]; first | exact hneg | (rw [← Nat.add_assoc]; exact hneg)))
                            have HBR := Lib.hid hneg
                            clear HO5 hneg
                            go_wp2_with (go_at_call 140; refine (broken_bad b s _ _ HK.out.rd HK.out.rdy HK.out.le HBR.out).mono ?_; rintro e w9 ⟨rfl, hx9, hb9⟩; clear c0 c1 c2 c3 c4 f0 f1 f2 f3 f4; replace HK := Lib.hid (HK.out.step hx9 hb9 HK.out.le); clear hx9 hb9; obtain ⟨c0, c1, c2, c3, c4, f0, f1, f2, f3, f4⟩ := RdAt.facts HK.out.rd)
                            go_ret2
                            exact TkP.of_odd HN.out HK.out rfl (by first | rfl | (simp only; omega)) rfl
                          · have hpos : 0 ≤ (nx (s.data.toList.drop (p + m))).2 := by omega
                            have HN := Lib.hid (show O = .fine _ (m) by rw [HO5.out]; exact aft_fine (by rw [List.drop_drop]; first | exact hpos | (rw [← Nat.add_assoc]; exact hpos)))
                            have HBR := Lib.hid hpos
                            clear HO5 hneg hpos
                            go_wp2_with (go_at_call 140; refine (broken_good b s _ _ HK.out.rd HK.out.rdy HK.out.le HBR.out).mono ?_; rintro e w9 ⟨rfl, hb⟩; clear c0 c1 c2 c3 c4 f0 f1 f2 f3 f4; replace HK := Lib.hid (HK.out.bel hb); clear hb; obtain ⟨c0, c1, c2, c3, c4, f0, f1, f2, f3, f4⟩ := RdAt.facts HK.out.rd)
                            go_ret2
                            exact TkP.of_fine HN.out (by omega) HK.out
                        · replace HO := Lib.hid (HO.out.trans (by rw [if_neg (fun h => h (nameL_no hnm))]))
                          have HNM := Lib.hid hnm
                          clear hnm
                          go_upto_region 26 with (go_at_call 139; refine (name_no b s _ _ _ HK.out.rd HK.out.rdy HK.out.le HNM.out).mono ?_; rintro e w9 ⟨rfl, hb⟩; clear c0 c1 c2 c3 c4 f0 f1 f2 f3 f4; replace HK := Lib.hid (HK.out.bel hb); clear hb; obtain ⟨c0, c1, c2, c3, c4, f0, f1, f2, f3, f4⟩ := RdAt.facts HK.out.rd)
                          have hpc := fun W hx hr hS => punct_any b s p line fl goal W hx hr hS hs hlt
                          unfold PcPost at hpc
                          obtain ⟨m, hm⟩ : ∃ m, pct goal (s.data.toList.drop p) = m := ⟨_, rfl⟩
                          rw [hm] at hpc
                          have HO5 := Lib.hid (HO.out.trans (by rw [hm]))
                          have HPC := Lib.hid hpc
                          clear HO hpc hm
                          by_cases hm0 : m = 0
                          · subst hm0
                            have HO6 := Lib.hid (HO5.out.trans (by rw [if_neg (by decide)]))
                            clear HO5
                            go_upto_region 28 with (go_at_call 145; refine (HPC.out _ HK.out.rd HK.out.rdy (HS.out.but hbl HK.out.but)).mono ?_; rintro e w9 ⟨rfl, hst9⟩; clear c0 c1 c2 c3 c4 f0 f1 f2 f3 f4; replace HK := Lib.hid (HK.out.step hst9.rd hst9.but hst9.le); clear hst9; obtain ⟨c0, c1, c2, c3, c4, f0, f1, f2, f3, f4⟩ := RdAt.facts HK.out.rd)
                            have HOD := Lib.hid (fun W hx hr => odd_any b s p line fl W hx hr hp)
                            unfold odd at HOD HO6
                            generalize hoc : (if Lib.hasPrefix (s.data.toList.drop p) [92] = true then (508 : Int) else 502) = oc at *
                            clear hoc
                            unfold TkB at HOD
                            simp only at HOD
                            go_wp2_with (go_at_call 137; refine (HOD.out _ HK.out.rd HK.out.rdy).mono ?_; rintro e w9 ⟨x', rfl, hst9, hl9, hf9, hc9⟩)
                            go_ret2
                            exact TkP.of_odd HO6.out (HK.out.step hst9.rd hst9.but hst9.le) hl9 hf9 hc9
                          · have HN := Lib.hid (show O = .fine 5 m by rw [HO5.out, if_pos hm0])
                            have hdm : decide (m ≠ 0) = true := decide_eq_true hm0
                            clear HO5 hm0
                            go_wp2_with (go_at_call 145; refine (HPC.out _ HK.out.rd HK.out.rdy (HS.out.but hbl HK.out.but)).mono ?_; rintro e w9 ⟨rfl, hst9⟩; clear c0 c1 c2 c3 c4 f0 f1 f2 f3 f4; replace HK := Lib.hid (HK.out.step hst9.rd hst9.but hst9.le); clear hst9; obtain ⟨c0, c1, c2, c3, c4, f0, f1, f2, f3, f4⟩ := RdAt.facts HK.out.rd)
                            go_ret2
                            exact TkP.of_fine HN.out rfl HK.out
end Go.Proofs.YteejjkfmmhegmaaGreatDoor
