/- Contracts of the reader's odd, tail and child. Conditions as in ..LC; no fault noted before. -/
import Derived.Test.YteejjkfmmhegmaaGreatDoorLPD
import Derived.Test.YteejjkfmmhegmaaGreatDoorLN
namespace Go.Proofs.YteejjkfmmhegmaaGreatDoor
open Go.RowKit

/-- what a method that reads a token answers: its kind and true, or false and a fault noted. -/
def TkP (b : Nat) (s : ByteArray) (p : Nat) (line : Bool) (fl : Int) (w : World) (o : TkO) (e : Ending) (w' : World) : Prop := match o with
  | .fine kind n => e = .returned (.tuple #[.int .i64 kind, .bool true]) ∧ Tst b s w ⟨p + n, line, fl, 0⟩ w'
  | .bad off code => ∃ (x' : Rd) (kd : Int), e = .returned (.tuple #[.int .i64 kd, .bool false]) ∧ Tst b s w x' w' ∧ x'.line = line ∧ x'.fail = ((p + off : Nat) : Int) ∧ x'.code = code
set_option maxRecDepth 20000 in
set_option maxHeartbeats 1000000 in
theorem odd_any (b : Nat) (s : ByteArray) (p : Nat) (line : Bool) (fl : Int) (w : World) (hx : RdAt w b s ⟨p, line, fl, 0⟩) (hr : Ready b w) (hp : p ≤ s.size) :
    Calls Tryz.prog 137 #[.pointer (some ⟨b, 0, none⟩)] w fun e w' => TkB b s p line fl w (odd (s.data.toList.drop p)) e w' := by
  have HK := Lib.hid (show Tst b s w ⟨p, line, fl, 0⟩ w from ⟨hx, But.refl _ _, hr, hp⟩)
  clear hx hr
  obtain ⟨c0, c1, c2, c3, c4, f0, f1, f2, f3, f4⟩ := RdAt.facts HK.out.rd
  cases h92 : Lib.hasPrefix (s.data.toList.drop p) [92] with
  | true =>
    have HN := Lib.hid (show odd (s.data.toList.drop p) = .bad 0 508 by unfold odd; rw [if_pos h92])
    go_enter Tryz.func137, Tryz.ntmps137
    go_upto_region 2 with (go_at_call 136; refine (is_lit b s _ _ _ HK.out.rd HK.out.le).mono ?_; rintro e w9 ⟨rfl, hb⟩; clear c0 c1 c2 c3 c4 f0 f1 f2 f3 f4; replace HK := Lib.hid (HK.out.bel hb); clear hb; obtain ⟨c0, c1, c2, c3, c4, f0, f1, f2, f3, f4⟩ := RdAt.facts HK.out.rd)
    go_wp2_with (go_at_call 138; refine (stop_any b s _ _ _ _ HK.out.rd).mono ?_; rintro e w9 ⟨rfl, hx9, hb9⟩; clear c0 c1 c2 c3 c4 f0 f1 f2 f3 f4; replace HK := Lib.hid (HK.out.step hx9 hb9 HK.out.le); clear hx9 hb9; obtain ⟨c0, c1, c2, c3, c4, f0, f1, f2, f3, f4⟩ := RdAt.facts HK.out.rd)
    go_ret
    rw [HN.out]
    exact ⟨_, rfl, HK.out, rfl, by simp only [Nat.add_zero], rfl⟩
  | false =>
    have HN := Lib.hid (show odd (s.data.toList.drop p) = .bad 0 502 by unfold odd; rw [h92]; rfl)
    go_enter Tryz.func137, Tryz.ntmps137
    go_upto_region 3 with (go_at_call 136; refine (is_lit b s _ _ _ HK.out.rd HK.out.le).mono ?_; rintro e w9 ⟨rfl, hb⟩; clear c0 c1 c2 c3 c4 f0 f1 f2 f3 f4; replace HK := Lib.hid (HK.out.bel hb); clear hb; obtain ⟨c0, c1, c2, c3, c4, f0, f1, f2, f3, f4⟩ := RdAt.facts HK.out.rd)
    go_wp2_with (go_at_call 138; refine (stop_any b s _ _ _ _ HK.out.rd).mono ?_; rintro e w9 ⟨rfl, hx9, hb9⟩; clear c0 c1 c2 c3 c4 f0 f1 f2 f3 f4; replace HK := Lib.hid (HK.out.step hx9 hb9 HK.out.le); clear hx9 hb9; obtain ⟨c0, c1, c2, c3, c4, f0, f1, f2, f3, f4⟩ := RdAt.facts HK.out.rd)
    go_ret
    rw [HN.out]
    exact ⟨_, rfl, HK.out, rfl, by simp only [Nat.add_zero], rfl⟩
theorem tpPlace_eq (p off : Nat) (code : Int) : tpPlace p off code = ((p + (if code = 502 then 1 + off else 0) : Nat) : Int) := by
  unfold tpPlace
  split
  · congr 1
    omega
  · simp
set_option maxRecDepth 20000 in
set_option maxHeartbeats 1000000 in
theorem tail_any (b : Nat) (s : ByteArray) (p : Nat) (line : Bool) (fl : Int) (w : World) (hx : RdAt w b s ⟨p, line, fl, 0⟩) (hr : Ready b w) (hs : s.size ≤ 16777216) (hp : p < s.size) :
    Calls Tryz.prog 109 #[.pointer (some ⟨b, 0, none⟩)] w fun e w' => TkP b s p line fl w (tailT (s.data.toList.drop p)) e w' := by
  have ht := template_any b s p line fl w hx hr hs hp
  have hT : tailT (s.data.toList.drop p) = tpTk 10 9 (tpl (s.data.toList.drop (p + 1))) := by unfold tailT; rw [List.drop_drop]
  generalize tailT (s.data.toList.drop p) = O at *
  cases hO : tpl (s.data.toList.drop (p + 1)) with
  | fine n h =>
    rw [hO] at ht hT
    simp only [TpPost] at ht
    have HT := Lib.hid ht
    have HN := Lib.hid hT
    clear ht hT hO hx hr
    cases h with
    | true =>
      go_enter Tryz.func109, Tryz.ntmps109
      go_wp2_with (go_at_call 134; refine HT.out.mono ?_; rintro e w9 ⟨rfl, hst⟩)
      go_ret2
      rw [HN.out]
      exact ⟨rfl, by rw [← Nat.add_assoc]; exact hst⟩
    | false =>
      go_enter Tryz.func109, Tryz.ntmps109
      go_wp2_with (go_at_call 134; refine HT.out.mono ?_; rintro e w9 ⟨rfl, hst⟩)
      go_ret2
      rw [HN.out]
      exact ⟨rfl, by rw [← Nat.add_assoc]; exact hst⟩
  | bad off code =>
    rw [hO] at ht hT
    simp only [TpPost] at ht
    have HT := Lib.hid ht
    have HN := Lib.hid hT
    clear ht hT hO hx hr
    go_enter Tryz.func109, Tryz.ntmps109
    go_wp2_with (go_at_call 134; refine HT.out.mono ?_; rintro e w9 ⟨x', rfl, hst, hl, hf, hc⟩)
    go_ret2
    rw [HN.out]
    exact ⟨x', _, rfl, hst, hl, hf.trans (tpPlace_eq p off code), hc⟩
theorem ch_at (s : ByteArray) (k : Nat) (h : k < s.size) : ch (s.data.toList.drop k) =
    if chC s[k] = true then (true, 0)
    else if (nx (s.data.toList.drop k)).2 < 0 then (false, 0)
    else up (nx (s.data.toList.drop k)).2.toNat (ch (s.data.toList.drop (k + (nx (s.data.toList.drop k)).2.toNat))) := by
  have := ch_step s[k] (s.data.toList.drop (k + 1))
  rw [← drop_cons s k h, List.drop_drop] at this
  exact this
def four : ByteArray := ⟨#[123, 125, 60, 62]⟩
theorem chC_ix (c : UInt8) : (Lib.indexByte four.data.toList c < 0) ↔ chC c = false := by
  have h : ∀ c : Fin 256, (Lib.indexByte four.data.toList c.val.toUInt8 < 0) ↔ chC c.val.toUInt8 = false := by decide +kernel
  have := h ⟨c.toNat, c.toNat_lt⟩
  simpa using this
set_option maxRecDepth 20000 in
set_option maxHeartbeats 4000000 in
theorem child_any (b : Nat) (s : ByteArray) (p : Nat) (line : Bool) (fl : Int) (w : World) (hx : RdAt w b s ⟨p, line, fl, 0⟩) (hr : Ready b w) (hs : s.size ≤ 16777216) (hp : p ≤ s.size) :
    Calls Tryz.prog 110 #[.pointer (some ⟨b, 0, none⟩)] w fun e w' => TkP b s p line fl w (childT (s.data.toList.drop p)) e w' := by
  have HK := Lib.hid (show Tst b s w ⟨p, line, fl, 0⟩ w from ⟨hx, But.refl _ _, hr, hp⟩)
  have hO : childT (s.data.toList.drop p) = if (ch (s.data.toList.drop p)).1 = false then .bad (ch (s.data.toList.drop p)).2 502 else if 0 < (ch (s.data.toList.drop p)).2 then .fine 11 (ch (s.data.toList.drop p)).2 else if s.data.toList.drop p = [] then .fine 0 0 else if Lib.hasPrefix (s.data.toList.drop p) [123] = true ∨ Lib.hasPrefix (s.data.toList.drop p) [60] = true then .fine 5 1 else odd (s.data.toList.drop p) := rfl
  generalize childT (s.data.toList.drop p) = O at *
  have HO := Lib.hid hO
  clear hO hx hr
  obtain ⟨c0, c1, c2, c3, c4, f0, f1, f2, f3, f4⟩ := RdAt.facts HK.out.rd
  go_enter Tryz.func110, Tryz.ntmps110
  go_wp2_with fail
  have hst0 := HK.out
  clear c0 c1 c2 c3 c4 f0 f1 f2 f3 f4 HK
  go_loopw [2, 3] (fun _ _ wr => ∃ k : Nat, p ≤ k ∧ Tst b s w ⟨k, line, fl, 0⟩ wr ∧ ch (s.data.toList.drop p) = up (k - p) (ch (s.data.toList.drop k))) (fun _ _ wr => s.size - rdPos wr b)
  case atStart => exact ⟨p, Nat.le_refl _, hst0, by rw [Nat.sub_self, up_zero]⟩
  case round =>
    obtain ⟨k, hpk, hst, heq⟩ := hrel
    have hle := hst.le
    simp only at hle
    have HPOS := Lib.hid hst.rd.pos
    have HK := Lib.hid hst
    clear hst hst0
    obtain ⟨c0, c1, c2, c3, c4, f0, f1, f2, f3, f4⟩ := RdAt.facts HK.out.rd
    by_cases hgo : ∃ h : k < s.size, chC s[k] = false
    · obtain ⟨hlt, hc⟩ := hgo
      have hat := ch_at s k hlt
      rw [if_neg (by rw [hc]; decide)] at hat
      rw [hat] at heq
      have HEQ := Lib.hid heq
      clear heq hat
      have hix := (chC_ix s[k]).2 hc
      have hI := fun W => Tryz.strings_IndexByte four (s[k].toNat : Int) W
      obtain ⟨ix, hixe⟩ : ∃ ix, Lib.indexByte four.data.toList s[k] = ix := ⟨_, rfl⟩
      rw [show ((s[k].toNat : Int)).toNat.toUInt8 = s[k] by simp, hixe] at hI
      rw [hixe] at hix
      unfold four at hI
      have HI := Lib.hid hI
      clear hI hixe
      have hpz := fun h => nx_pos (l := s.data.toList.drop k) h
      rw [List.length_drop, ofl] at hpz
      have HPZ := Lib.hid hpz
      clear hpz hc
      go_upto_region 2 with fail
      go_cut [34] from 10 to 33 (fun v wx => v = .bool true ∧ Tst b s w ⟨k, line, fl, 0⟩ wx)
      case first =>
        go_quiet ((go_at_call 123; exact Calls.quiet_of_same (HI.out _)))
        go_wp2_with fail
        go_meet
        exact ⟨rfl, HK.out.bel (bel_drewN (Below.refl _ _) _)⟩
      case rest =>
        obtain ⟨rfl, hst⟩ := hcut
        clear c0 c1 c2 c3 c4 f0 f1 f2 f3 f4 HK HI
        have HK := Lib.hid hst
        clear hst
        obtain ⟨c0, c1, c2, c3, c4, f0, f1, f2, f3, f4⟩ := RdAt.facts HK.out.rd
        by_cases hneg : (nx (s.data.toList.drop k)).2 < 0
        · have HN := Lib.hid (show O = .bad (k - p) 502 by rw [HO.out, HEQ.out, if_pos hneg, if_pos (show (up (k - p) (false, 0)).1 = false from rfl)]; rfl)
          have HG := Lib.hid hneg
          clear HO HEQ HPZ hneg
          go_wp2_with (go_at_call 135; refine (pass_bad b s _ _ HK.out.rd HK.out.rdy HK.out.le HG.out).mono ?_; rintro e w9 ⟨rfl, hx9, hb9⟩; clear c0 c1 c2 c3 c4 f0 f1 f2 f3 f4; replace HK := Lib.hid (HK.out.step hx9 hb9 HK.out.le); clear hx9 hb9; obtain ⟨c0, c1, c2, c3, c4, f0, f1, f2, f3, f4⟩ := RdAt.facts HK.out.rd)
          go_ret2
          rw [HN.out]
          exact ⟨_, _, rfl, HK.out, rfl, by simp only; omega, rfl⟩
        · obtain ⟨n, hn, hn1, hn2, hn3⟩ := HPZ.out (by omega)
          have hqn : k + n ≤ s.size := by omega
          have hn0 : 0 < n := by
            rcases Nat.eq_zero_or_pos n with h | h
            · have := congrArg List.length (hn3.2 h)
              rw [List.length_drop, ofl] at this
              simp at this
              omega
            · exact h
          have HN := Lib.hid (show ch (s.data.toList.drop p) = up (k + n - p) (ch (s.data.toList.drop (k + n))) by rw [HEQ.out, if_neg hneg, up_up, hn, Int.toNat_natCast, show k - p + n = k + n - p by omega])
          have HG := Lib.hid hn
          have hd : decide (0 < n) = true := decide_eq_true hn0
          clear HEQ HPZ hneg hn hn1 hn2 hn3
          go_wp2_with (go_at_call 135; refine (pass_good b s _ _ _ HK.out.rd HK.out.rdy hs HK.out.le HG.out).mono ?_; rintro e w9 ⟨rfl, hx9, hb9⟩; clear c0 c1 c2 c3 c4 f0 f1 f2 f3 f4; replace HK := Lib.hid (HK.out.step hx9 hb9 hqn); clear hx9 hb9; obtain ⟨c0, c1, c2, c3, c4, f0, f1, f2, f3, f4⟩ := RdAt.facts HK.out.rd)
          go_roundw
          case rel => exact ⟨k + n, by omega, HK.out, HN.out⟩
          case measure => rw [HK.out.rd.pos, HPOS.out]; simp only; omega
    · have hch : ch (s.data.toList.drop k) = (true, 0) := by
        by_cases hlt : k < s.size
        · rw [ch_at s k hlt, if_pos]
          cases hc : chC s[k] with
          | true => rfl
          | false => exact absurd ⟨hlt, hc⟩ hgo
        · rw [List.drop_of_length_le (by rw [ofl]; omega)]
          rfl
      rw [hch] at heq
      have HEQ := Lib.hid (heq.trans (show up (k - p) (true, 0) = (true, k - p) from rfl))
      clear heq hch
      go_upto_region 2 with fail
      go_cut [34] from 10 to 33 (fun v wx => v = .bool false ∧ Tst b s w ⟨k, line, fl, 0⟩ wx)
      case first =>
        by_cases hlt : k < s.size
        · have hix : ¬ Lib.indexByte four.data.toList s[k] < 0 := fun h => hgo ⟨hlt, (chC_ix s[k]).1 h⟩
          have hI := fun W => Tryz.strings_IndexByte four (s[k].toNat : Int) W
          clear hgo
          obtain ⟨ix, hixe⟩ : ∃ ix, Lib.indexByte four.data.toList s[k] = ix := ⟨_, rfl⟩
          rw [show ((s[k].toNat : Int)).toNat.toUInt8 = s[k] by simp, hixe] at hI
          rw [hixe] at hix
          unfold four at hI
          have HI := Lib.hid hI
          clear hI hixe
          go_quiet ((go_at_call 123; exact Calls.quiet_of_same (HI.out _)))
          go_wp2_with fail
          go_meet
          exact ⟨rfl, HK.out.bel (bel_drewN (Below.refl _ _) _)⟩
        · clear hgo
          go_quiet (fail)
          go_wp2_with fail
          go_meet
          exact ⟨rfl, HK.out.bel (bel_drewN (Below.refl _ _) _)⟩
      case rest =>
        obtain ⟨rfl, hst⟩ := hcut
        clear c0 c1 c2 c3 c4 f0 f1 f2 f3 f4 HK hgo
        have HK := Lib.hid hst
        clear hst
        obtain ⟨c0, c1, c2, c3, c4, f0, f1, f2, f3, f4⟩ := RdAt.facts HK.out.rd
        by_cases hgt : p < k
        · have HN := Lib.hid (show O = .fine 11 (k - p) by rw [HO.out, HEQ.out, if_neg (by simp), if_pos (by simp only; omega)])
          clear HO HEQ
          go_wp2_with fail
          go_ret2
          rw [HN.out]
          exact ⟨rfl, by rw [show p + (k - p) = k by omega]; exact HK.out⟩
        · obtain rfl : k = p := by omega
          have HO2 := Lib.hid (HO.out.trans (by rw [HEQ.out, if_neg (by simp), if_neg (by simp)]))
          clear HO HEQ
          by_cases hend : k = s.size
          · have HN := Lib.hid (show O = .fine 0 0 by rw [HO2.out, if_pos (List.drop_of_length_le (by rw [ofl]; omega))])
            have be : (((k : Nat) : Int) == ((s.size : Nat) : Int)) = true := by rw [beq_iff_eq]; omega
            clear HO2 hend
            go_upto_region 7 with fail
            go_quiet (fail)
            go_wp2_with fail
            go_ret2
            rw [HN.out]
            exact ⟨rfl, HK.out.bel (bel_drewN (Below.refl _ _) _)⟩
          · have hne : s.data.toList.drop k ≠ [] := fun h => by
              have := congrArg List.length h
              rw [List.length_drop, ofl] at this
              simp at this
              omega
            have HO3 := Lib.hid (HO2.out.trans (by rw [if_neg hne]))
            have be : (((k : Nat) : Int) == ((s.size : Nat) : Int)) = false := by rw [beq_eq_false_iff_ne]; omega
            have hk1 : k + 1 ≤ s.size := by omega
            clear HO2 hne hend
            go_upto_region 7 with fail
            go_quiet (fail)
            go_upto_region 9 with fail
            generalize hwd : World.drewN _ _ = w3 at *
            have hbd : Below wc.heap.size wc w3 := by rw [← hwd]; exact bel_drewN (Below.refl _ _) _
            clear hwd c0 c1 c2 c3 c4 f0 f1 f2 f3 f4
            replace HK := Lib.hid (HK.out.bel hbd)
            clear hbd
            obtain ⟨c0, c1, c2, c3, c4, f0, f1, f2, f3, f4⟩ := RdAt.facts HK.out.rd
            cases h1 : Lib.hasPrefix (s.data.toList.drop k) [123] with
            | true =>
              have HN := Lib.hid (show O = .fine 5 1 by rw [HO3.out, if_pos (.inl h1)])
              clear HO3
              go_upto_region 11 with (go_at_call 136; refine (is_lit b s _ _ _ HK.out.rd HK.out.le).mono ?_; rintro e w9 ⟨rfl, hb⟩; clear c0 c1 c2 c3 c4 f0 f1 f2 f3 f4; replace HK := Lib.hid (HK.out.bel hb); clear hb; obtain ⟨c0, c1, c2, c3, c4, f0, f1, f2, f3, f4⟩ := RdAt.facts HK.out.rd)
              have hkx := HK.out.setRd (y := ⟨k + 1, line, fl, 0⟩) 0 (.int .i64 ((k : Int) + 1)) rfl hk1
              go_wp2_with fail
              go_ret2
              rw [HN.out]
              exact ⟨rfl, hkx⟩
            | false =>
              go_upto_region 10 with (go_at_call 136; refine (is_lit b s _ _ _ HK.out.rd HK.out.le).mono ?_; rintro e w9 ⟨rfl, hb⟩; clear c0 c1 c2 c3 c4 f0 f1 f2 f3 f4; replace HK := Lib.hid (HK.out.bel hb); clear hb; obtain ⟨c0, c1, c2, c3, c4, f0, f1, f2, f3, f4⟩ := RdAt.facts HK.out.rd)
              cases h2 : Lib.hasPrefix (s.data.toList.drop k) [60] with
              | true =>
                have HN := Lib.hid (show O = .fine 5 1 by rw [HO3.out, if_pos (.inr h2)])
                clear HO3
                go_upto_region 11 with (go_at_call 136; refine (is_lit b s _ _ _ HK.out.rd HK.out.le).mono ?_; rintro e w9 ⟨rfl, hb⟩; clear c0 c1 c2 c3 c4 f0 f1 f2 f3 f4; replace HK := Lib.hid (HK.out.bel hb); clear hb; obtain ⟨c0, c1, c2, c3, c4, f0, f1, f2, f3, f4⟩ := RdAt.facts HK.out.rd)
                have hkx := HK.out.setRd (y := ⟨k + 1, line, fl, 0⟩) 0 (.int .i64 ((k : Int) + 1)) rfl hk1
                go_wp2_with fail
                go_ret2
                rw [HN.out]
                exact ⟨rfl, hkx⟩
              | false =>
                have HN := Lib.hid (show O = odd (s.data.toList.drop k) by rw [HO3.out, if_neg (by rw [h1, h2]; decide)])
                clear HO3
                go_upto_region 13 with (go_at_call 136; refine (is_lit b s _ _ _ HK.out.rd HK.out.le).mono ?_; rintro e w9 ⟨rfl, hb⟩; clear c0 c1 c2 c3 c4 f0 f1 f2 f3 f4; replace HK := Lib.hid (HK.out.bel hb); clear hb; obtain ⟨c0, c1, c2, c3, c4, f0, f1, f2, f3, f4⟩ := RdAt.facts HK.out.rd)
                have HOD := Lib.hid (fun W hx hr => odd_any b s k line fl W hx hr hle)
                unfold odd at HOD HN
                generalize hoc : (if Lib.hasPrefix (s.data.toList.drop k) [92] = true then (508 : Int) else 502) = oc at *
                clear hoc
                unfold TkB at HOD
                simp only at HOD
                go_wp2_with (go_at_call 137; refine (HOD.out _ HK.out.rd HK.out.rdy).mono ?_; rintro e w9 ⟨x', rfl, hst9, hl, hf, hc⟩; have hst := HK.out.step hst9.rd hst9.but hst9.le)
                go_ret2
                rw [HN.out]
                exact ⟨x', _, rfl, hst, hl, hf, hc⟩
end Go.Proofs.YteejjkfmmhegmaaGreatDoor
