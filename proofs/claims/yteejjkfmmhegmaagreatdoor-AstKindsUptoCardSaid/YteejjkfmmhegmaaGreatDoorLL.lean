/- Contract of the reader's template. Conditions as in ..LC; no fault noted before. -/
import Derived.Test.YteejjkfmmhegmaaGreatDoorLK
namespace Go.Proofs.YteejjkfmmhegmaaGreatDoor
open Go.RowKit

theorem TpO.shift_shift (o : TpO) (m k : Nat) : (o.shift m).shift k = o.shift (k + m) := by
  cases o <;> simp [TpO.shift, Nat.add_assoc]
theorem TpO.shift_zero (o : TpO) : o.shift 0 = o := by
  cases o <;> simp [TpO.shift]
/-- a reader within a token. -/
structure Tst (b : Nat) (s : ByteArray) (w0 : World) (x : Rd) (w : World) : Prop where
  rd : RdAt w b s x
  but : But b w0 w
  rdy : Ready b w
  le : x.at' ≤ s.size
theorem Tst.step {b : Nat} {s : ByteArray} {w0 w w' : World} {x y : Rd} (h : Tst b s w0 x w) (hx : RdAt w' b s y) (hb : But b w w') (hl : y.at' ≤ s.size) : Tst b s w0 y w' :=
  ⟨hx, h.but.trans hb, h.rdy.but h.rd.lt hb, hl⟩
theorem Tst.bel {b : Nat} {s : ByteArray} {w0 w w' : World} {x : Rd} (h : Tst b s w0 x w) (hb : Below w.heap.size w w') : Tst b s w0 x w' := h.step (h.rd.bel hb) (.of_below hb) h.le
theorem Tst.setRd {b : Nat} {s : ByteArray} {w0 w : World} {x y : Rd} (h : Tst b s w0 x w) (k : Nat) (u : Value) (hy : (x.cells s).setIfInBounds k u = y.cells s) (hl : y.at' ≤ s.size) : Tst b s w0 y (w.setCell ⟨b, k, none⟩ u) :=
  h.step (h.rd.set k u hy) ((But.refl b w).setCell k u) hl
/-- where a fault at an offset behind the token's first byte is laid. -/
def tpPlace (p off : Nat) (code : Int) : Int := if code = 502 then ((p + 1 + off : Nat) : Int) else p
def TpPost (b : Nat) (s : ByteArray) (p : Nat) (line : Bool) (fl : Int) (w : World) (o : TpO) (e : Ending) (w' : World) : Prop := match o with
  | .fine n h => e = .returned (.tuple #[.bool h, .bool true]) ∧ Tst b s w ⟨p + 1 + n, line, fl, 0⟩ w'
  | .bad off code => ∃ x' : Rd, e = .returned (.tuple #[.bool false, .bool false]) ∧ Tst b s w x' w' ∧ x'.line = line ∧ x'.fail = tpPlace p off code ∧ x'.code = code
def TpRel (b : Nat) (s : ByteArray) (p : Nat) (line : Bool) (fl : Int) (w : World) (wr : World) : Prop :=
  ∃ k : Nat, p + 1 ≤ k ∧ Tst b s w ⟨k, line, fl, 0⟩ wr ∧ tpl (s.data.toList.drop (p + 1)) = (tpl (s.data.toList.drop k)).shift (k - (p + 1))
set_option maxRecDepth 20000 in
set_option maxHeartbeats 2000000 in
theorem template_any (b : Nat) (s : ByteArray) (p : Nat) (line : Bool) (fl : Int) (w : World) (hx : RdAt w b s ⟨p, line, fl, 0⟩) (hr : Ready b w) (hs : s.size ≤ 16777216) (hp : p < s.size) :
    Calls Tryz.prog 134 #[.pointer (some ⟨b, 0, none⟩)] w fun e w' => TpPost b s p line fl w (tpl (s.data.toList.drop (p + 1))) e w' := by
  have hk0 : Tst b s w ⟨p, line, fl, 0⟩ w := ⟨hx, But.refl _ _, hr, Nat.le_of_lt hp⟩
  have hk := hk0.setRd (y := ⟨p + 1, line, fl, 0⟩) 0 (.int .i64 ((p : Int) + 1)) rfl (show p + 1 ≤ s.size by omega)
  obtain ⟨c0, c1, c2, c3, c4, f0, f1, f2, f3, f4⟩ := RdAt.facts hx
  clear hx hr
  go_enter Tryz.func134, Tryz.ntmps134
  go_wp2
  go_loopw [2, 3, 19, 31, 43] (fun _ _ _ _ _ wr => TpRel b s p line fl w wr) (fun _ _ _ _ _ wr => s.size - rdPos wr b)
  case atStart => exact ⟨p + 1, Nat.le_refl _, hk, by rw [Nat.sub_self, TpO.shift_zero]⟩
  case round =>
    obtain ⟨k, hpk, hst, heq⟩ := hrel
    have hle := hst.le
    simp only at hle
    have hstep := tpl_step (s.data.toList.drop k)
    rw [hstep] at heq
    have HPOS := Lib.hid hst.rd.pos
    have HK := Lib.hid hst
    have HEQ := Lib.hid heq
    clear hst heq hstep hk hk0 c0 c1 c2 c3 c4 f0 f1 f2 f3 f4
    obtain ⟨c0, c1, c2, c3, c4, f0, f1, f2, f3, f4⟩ := RdAt.facts HK.out.rd
    cases h96 : Lib.hasPrefix (s.data.toList.drop k) [96] with
    | true =>
      have hl := prefix_len h96
      rw [List.length_drop, ofl] at hl
      have hl1 : k + 1 ≤ s.size := by simp at hl; omega
      have HN := Lib.hid (show tpl (s.data.toList.drop (p + 1)) = .fine (k - (p + 1) + 1) false by rw [HEQ.out, if_pos h96]; rfl)
      clear HEQ hl
      go_upto_region 4 with (go_at_call 136; refine (is_lit b s _ _ _ HK.out.rd HK.out.le).mono ?_; rintro e w9 ⟨rfl, hb⟩; clear c0 c1 c2 c3 c4 f0 f1 f2 f3 f4; replace HK := Lib.hid (HK.out.bel hb); clear hb; obtain ⟨c0, c1, c2, c3, c4, f0, f1, f2, f3, f4⟩ := RdAt.facts HK.out.rd)
      have hk1 := HK.out.setRd (y := ⟨k + 1, line, fl, 0⟩) 0 (.int .i64 ((k : Int) + 1)) rfl hl1
      go_wp2_with fail
      go_ret2
      rw [HN.out]
      unfold TpPost
      simp only
      rw [show p + 1 + (k - (p + 1) + 1) = k + 1 by omega]
      exact ⟨rfl, hk1⟩
    | false =>
      cases h36 : Lib.hasPrefix (s.data.toList.drop k) [36, 123] with
      | true =>
        have hl := prefix_len h36
        rw [List.length_drop, ofl] at hl
        have hl1 : k + 2 ≤ s.size := by simp at hl; omega
        have HN := Lib.hid (show tpl (s.data.toList.drop (p + 1)) = .fine (k - (p + 1) + 2) true by rw [HEQ.out, if_neg (by rw [h96]; decide), if_pos h36]; rfl)
        clear HEQ hl
        go_upto_region 6 with (go_at_call 136; refine (is_lit b s _ _ _ HK.out.rd HK.out.le).mono ?_; rintro e w9 ⟨rfl, hb⟩; clear c0 c1 c2 c3 c4 f0 f1 f2 f3 f4; replace HK := Lib.hid (HK.out.bel hb); clear hb; obtain ⟨c0, c1, c2, c3, c4, f0, f1, f2, f3, f4⟩ := RdAt.facts HK.out.rd)
        go_upto_region 7 with (go_at_call 136; refine (is_lit b s _ _ _ HK.out.rd HK.out.le).mono ?_; rintro e w9 ⟨rfl, hb⟩; clear c0 c1 c2 c3 c4 f0 f1 f2 f3 f4; replace HK := Lib.hid (HK.out.bel hb); clear hb; obtain ⟨c0, c1, c2, c3, c4, f0, f1, f2, f3, f4⟩ := RdAt.facts HK.out.rd)
        have hk1 := HK.out.setRd (y := ⟨k + 2, line, fl, 0⟩) 0 (.int .i64 ((k : Int) + 2)) rfl hl1
        go_wp2_with fail
        go_ret2
        rw [HN.out]
        unfold TpPost
        simp only
        rw [show p + 1 + (k - (p + 1) + 2) = k + 2 by omega]
        exact ⟨rfl, hk1⟩
      | false =>
        cases h92 : Lib.hasPrefix (s.data.toList.drop k) [92] with
        | true =>
          have hl := prefix_len h92
          rw [List.length_drop, ofl] at hl
          have hq : k + 1 ≤ s.size := by simp at hl; omega
          clear hl
          have hesc : esc (s.data.toList.drop k) = 1 := by unfold esc; rw [h92]; rfl
          have heq := HEQ.out
          rw [if_neg (show ¬ _ by rw [h96]; decide), if_neg (show ¬ _ by rw [h36]; decide), hesc, List.drop_drop, List.drop_drop] at heq
          clear HEQ hesc
          have HQ := Lib.hid heq
          clear heq
          have hpz := fun h => nx_pos (l := s.data.toList.drop (k + 1)) h
          rw [List.length_drop, ofl] at hpz
          have HPZ := Lib.hid hpz
          clear hpz
          go_upto_region 6 with (go_at_call 136; refine (is_lit b s _ _ _ HK.out.rd HK.out.le).mono ?_; rintro e w9 ⟨rfl, hb⟩; clear c0 c1 c2 c3 c4 f0 f1 f2 f3 f4; replace HK := Lib.hid (HK.out.bel hb); clear hb; obtain ⟨c0, c1, c2, c3, c4, f0, f1, f2, f3, f4⟩ := RdAt.facts HK.out.rd)
          go_upto_region 9 with (go_at_call 136; refine (is_lit b s _ _ _ HK.out.rd HK.out.le).mono ?_; rintro e w9 ⟨rfl, hb⟩; clear c0 c1 c2 c3 c4 f0 f1 f2 f3 f4; replace HK := Lib.hid (HK.out.bel hb); clear hb; obtain ⟨c0, c1, c2, c3, c4, f0, f1, f2, f3, f4⟩ := RdAt.facts HK.out.rd)
          go_upto_region 10 with (go_at_call 136; refine (is_lit b s _ _ _ HK.out.rd HK.out.le).mono ?_; rintro e w9 ⟨rfl, hb⟩; clear c0 c1 c2 c3 c4 f0 f1 f2 f3 f4; replace HK := Lib.hid (HK.out.bel hb); clear hb; obtain ⟨c0, c1, c2, c3, c4, f0, f1, f2, f3, f4⟩ := RdAt.facts HK.out.rd)
          have hk1 := HK.out.setRd (y := ⟨k + 1, line, fl, 0⟩) 0 (.int .i64 ((k : Int) + 1)) rfl hq
          go_upto_region 11 with fail
          clear c0 c1 c2 c3 c4 f0 f1 f2 f3 f4 HK
          generalize World.setCell _ _ _ = w6 at *
          have HK := Lib.hid hk1
          clear hk1
          obtain ⟨c0, c1, c2, c3, c4, f0, f1, f2, f3, f4⟩ := RdAt.facts HK.out.rd
          by_cases hneg : (nx (s.data.toList.drop (k + 1))).2 < 0
          · have HN := Lib.hid (show tpl (s.data.toList.drop (p + 1)) = .bad (k - (p + 1) + 1) 502 by rw [HQ.out, if_neg (by omega), if_pos hneg]; rfl)
            have HG := Lib.hid hneg
            clear hneg HQ HPZ
            go_wp2_with (go_at_call 135; refine (pass_bad b s _ _ HK.out.rd HK.out.rdy HK.out.le HG.out).mono ?_; rintro e w9 ⟨rfl, hx9, hb9⟩; clear c0 c1 c2 c3 c4 f0 f1 f2 f3 f4; replace HK := Lib.hid (HK.out.step hx9 hb9 HK.out.le); clear hx9 hb9; obtain ⟨c0, c1, c2, c3, c4, f0, f1, f2, f3, f4⟩ := RdAt.facts HK.out.rd)
            go_ret2
            rw [HN.out]
            exact ⟨_, rfl, HK.out, rfl, by unfold tpPlace; rw [if_pos rfl]; simp only; omega, rfl⟩
          · obtain ⟨n, hn, hn1, hn2, _⟩ := HPZ.out (by omega)
            have hqn : k + 1 + n ≤ s.size := by omega
            by_cases hz : n = 0
            · subst hz
              have HN := Lib.hid (show tpl (s.data.toList.drop (p + 1)) = .bad (k - (p + 1) + 1) 505 by rw [HQ.out, if_pos (by rw [hn]; rfl)]; rfl)
              have HG := Lib.hid hn
              clear hn hneg HQ HPZ
              go_wp2_with (first | (go_at_call 135; refine (pass_good b s _ _ _ HK.out.rd HK.out.rdy hs HK.out.le HG.out).mono ?_; rintro e w9 ⟨rfl, hx9, hb9⟩; clear c0 c1 c2 c3 c4 f0 f1 f2 f3 f4; replace HK := Lib.hid (HK.out.step hx9 hb9 hqn); clear hx9 hb9; obtain ⟨c0, c1, c2, c3, c4, f0, f1, f2, f3, f4⟩ := RdAt.facts HK.out.rd) | (go_at_call 138; refine (stop_any b s _ _ _ _ HK.out.rd).mono ?_; rintro e w9 ⟨rfl, hx9, hb9⟩; clear c0 c1 c2 c3 c4 f0 f1 f2 f3 f4; replace HK := Lib.hid (HK.out.step hx9 hb9 hqn); clear hx9 hb9; obtain ⟨c0, c1, c2, c3, c4, f0, f1, f2, f3, f4⟩ := RdAt.facts HK.out.rd))
              go_ret2
              rw [HN.out]
              exact ⟨_, rfl, HK.out, rfl, rfl, rfl⟩
            · have HN := Lib.hid (show tpl (s.data.toList.drop (p + 1)) = (tpl (s.data.toList.drop (k + 1 + n))).shift (k + 1 + n - (p + 1)) by rw [HQ.out, if_neg (by omega), if_neg hneg, TpO.shift_shift, hn, Int.toNat_natCast]; congr 1 <;> first | omega | (congr 2; omega))
              have HG := Lib.hid hn
              clear hn hneg HQ HPZ
              have hd : decide (0 < n) = true := decide_eq_true (by omega)
              go_wp2_with (go_at_call 135; refine (pass_good b s _ _ _ HK.out.rd HK.out.rdy hs HK.out.le HG.out).mono ?_; rintro e w9 ⟨rfl, hx9, hb9⟩; clear c0 c1 c2 c3 c4 f0 f1 f2 f3 f4; replace HK := Lib.hid (HK.out.step hx9 hb9 hqn); clear hx9 hb9; obtain ⟨c0, c1, c2, c3, c4, f0, f1, f2, f3, f4⟩ := RdAt.facts HK.out.rd)
              go_roundw
              case rel => exact ⟨k + 1 + n, by omega, HK.out, HN.out⟩
              case measure => rw [HK.out.rd.pos, HPOS.out]; simp only; omega
        | false =>
          have hq : k ≤ s.size := hle
          have hesc : esc (s.data.toList.drop k) = 0 := by unfold esc; rw [h92]; rfl
          have heq := HEQ.out
          rw [if_neg (show ¬ _ by rw [h96]; decide), if_neg (show ¬ _ by rw [h36]; decide), hesc, List.drop_drop, List.drop_drop] at heq
          simp only [Nat.add_zero, Nat.zero_add] at heq
          clear HEQ hesc
          have HQ := Lib.hid heq
          clear heq
          have hpz := fun h => nx_pos (l := s.data.toList.drop (k)) h
          rw [List.length_drop, ofl] at hpz
          have HPZ := Lib.hid hpz
          clear hpz
          go_upto_region 6 with (go_at_call 136; refine (is_lit b s _ _ _ HK.out.rd HK.out.le).mono ?_; rintro e w9 ⟨rfl, hb⟩; clear c0 c1 c2 c3 c4 f0 f1 f2 f3 f4; replace HK := Lib.hid (HK.out.bel hb); clear hb; obtain ⟨c0, c1, c2, c3, c4, f0, f1, f2, f3, f4⟩ := RdAt.facts HK.out.rd)
          go_upto_region 9 with (go_at_call 136; refine (is_lit b s _ _ _ HK.out.rd HK.out.le).mono ?_; rintro e w9 ⟨rfl, hb⟩; clear c0 c1 c2 c3 c4 f0 f1 f2 f3 f4; replace HK := Lib.hid (HK.out.bel hb); clear hb; obtain ⟨c0, c1, c2, c3, c4, f0, f1, f2, f3, f4⟩ := RdAt.facts HK.out.rd)
          go_upto_region 11 with (go_at_call 136; refine (is_lit b s _ _ _ HK.out.rd HK.out.le).mono ?_; rintro e w9 ⟨rfl, hb⟩; clear c0 c1 c2 c3 c4 f0 f1 f2 f3 f4; replace HK := Lib.hid (HK.out.bel hb); clear hb; obtain ⟨c0, c1, c2, c3, c4, f0, f1, f2, f3, f4⟩ := RdAt.facts HK.out.rd)
          by_cases hneg : (nx (s.data.toList.drop (k))).2 < 0
          · have HN := Lib.hid (show tpl (s.data.toList.drop (p + 1)) = .bad (k - (p + 1) + 0) 502 by rw [HQ.out, if_neg (by omega), if_pos hneg]; rfl)
            have HG := Lib.hid hneg
            clear hneg HQ HPZ
            go_wp2_with (go_at_call 135; refine (pass_bad b s _ _ HK.out.rd HK.out.rdy HK.out.le HG.out).mono ?_; rintro e w9 ⟨rfl, hx9, hb9⟩; clear c0 c1 c2 c3 c4 f0 f1 f2 f3 f4; replace HK := Lib.hid (HK.out.step hx9 hb9 HK.out.le); clear hx9 hb9; obtain ⟨c0, c1, c2, c3, c4, f0, f1, f2, f3, f4⟩ := RdAt.facts HK.out.rd)
            go_ret2
            rw [HN.out]
            exact ⟨_, rfl, HK.out, rfl, by unfold tpPlace; rw [if_pos rfl]; simp only; omega, rfl⟩
          · obtain ⟨n, hn, hn1, hn2, _⟩ := HPZ.out (by omega)
            have hqn : k + n ≤ s.size := by omega
            by_cases hz : n = 0
            · subst hz
              have HN := Lib.hid (show tpl (s.data.toList.drop (p + 1)) = .bad (k - (p + 1) + 0) 505 by rw [HQ.out, if_pos (by rw [hn]; rfl)]; rfl)
              have HG := Lib.hid hn
              clear hn hneg HQ HPZ
              go_wp2_with (first | (go_at_call 135; refine (pass_good b s _ _ _ HK.out.rd HK.out.rdy hs HK.out.le HG.out).mono ?_; rintro e w9 ⟨rfl, hx9, hb9⟩; clear c0 c1 c2 c3 c4 f0 f1 f2 f3 f4; replace HK := Lib.hid (HK.out.step hx9 hb9 hqn); clear hx9 hb9; obtain ⟨c0, c1, c2, c3, c4, f0, f1, f2, f3, f4⟩ := RdAt.facts HK.out.rd) | (go_at_call 138; refine (stop_any b s _ _ _ _ HK.out.rd).mono ?_; rintro e w9 ⟨rfl, hx9, hb9⟩; clear c0 c1 c2 c3 c4 f0 f1 f2 f3 f4; replace HK := Lib.hid (HK.out.step hx9 hb9 hqn); clear hx9 hb9; obtain ⟨c0, c1, c2, c3, c4, f0, f1, f2, f3, f4⟩ := RdAt.facts HK.out.rd))
              go_ret2
              rw [HN.out]
              exact ⟨_, rfl, HK.out, rfl, rfl, rfl⟩
            · have HN := Lib.hid (show tpl (s.data.toList.drop (p + 1)) = (tpl (s.data.toList.drop (k + n))).shift (k + n - (p + 1)) by rw [HQ.out, if_neg (by omega), if_neg hneg, TpO.shift_shift, hn, Int.toNat_natCast]; congr 1 <;> first | omega | (congr 2; omega))
              have HG := Lib.hid hn
              clear hn hneg HQ HPZ
              have hd : decide (0 < n) = true := decide_eq_true (by omega)
              go_wp2_with (go_at_call 135; refine (pass_good b s _ _ _ HK.out.rd HK.out.rdy hs HK.out.le HG.out).mono ?_; rintro e w9 ⟨rfl, hx9, hb9⟩; clear c0 c1 c2 c3 c4 f0 f1 f2 f3 f4; replace HK := Lib.hid (HK.out.step hx9 hb9 hqn); clear hx9 hb9; obtain ⟨c0, c1, c2, c3, c4, f0, f1, f2, f3, f4⟩ := RdAt.facts HK.out.rd)
              go_roundw
              case rel => exact ⟨k + n, by omega, HK.out, HN.out⟩
              case measure => rw [HK.out.rd.pos, HPOS.out]; simp only; omega
end Go.Proofs.YteejjkfmmhegmaaGreatDoor
