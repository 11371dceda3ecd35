/- Contracts of str.hex, str.digits and str.braced. Condition: at most 2^24 bytes. -/
import Derived.Test.YteejjkfmmhegmaaGreatDoorLO
namespace Go.Proofs.YteejjkfmmhegmaaGreatDoor
open Go.RowKit

theorem ret_int64 {a b : Int} (h : a = b) : Ending.returned (.int .i64 a) = .returned (.int .i64 b) := by rw [h]
set_option maxHeartbeats 400000 in
theorem shex_any (c : UInt8) (w : World) :
    Calls Tryz.prog 154 #[.int .u8 c.toNat] w fun e w' => e = .returned (.int .i64 (hexD c)) ∧ w = w' := by
  have hc := c.toNat_lt
  go_enter Tryz.func154, Tryz.ntmps154
  go_wp2
  all_goals
    go_ret
    refine ⟨ret_int64 ?_, rfl⟩
    unfold hexD
    repeat' split
    all_goals omega
theorem or16i (m d : Nat) (hm : m ≤ 1114112) (hd : d < 16) : bits BinOp.or IntKind.i64 ((m : Int) * 16) (d : Int) = (m : Int) * 16 + d := by
  have h1 : (m * 16) ||| d = m * 16 + d := by
    have := Nat.two_pow_add_eq_or_of_lt (i := 4) (b := d) (by omega) m
    rw [show (2 : Nat) ^ 4 * m = m * 16 by omega] at this
    omega
  have e : IntKind.i64.bits = 64 := rfl
  simp only [bits, BitVec.toNat_or, BitVec.toNat_ofInt, e]
  rw [show ((m : Int) * 16 % ((2 ^ 64 : Nat) : Int)).toNat = m * 16 by omega, show ((d : Int) % ((2 ^ 64 : Nat) : Int)).toNat = d by omega, h1]
  rw [IntWalk.i64_in _ (by omega)]
  omega
theorem ret3 {x a b : Int} {f g : Bool} (h : a = b) (k : f = g) : Ending.returned (.tuple #[.int .i64 x, .int .i64 a, .bool f]) = .returned (.tuple #[.int .i64 x, .int .i64 b, .bool g]) := by rw [h, k]
set_option maxRecDepth 20000 in
set_option maxHeartbeats 1000000 in
theorem digits_any (s : ByteArray) (p m : Nat) (w : World) (hs : s.size ≤ 16777216) (hp : p ≤ s.size) (hm : m ≤ 4) (z zm : Int) (hz : z = p) (hzm : zm = m) :
    Calls Tryz.prog 127 #[.string s, .int .i64 z, .int .i64 zm] w fun e w' => (∃ x : Int, e = .returned (.tuple #[.int .i64 x, .int .i64 ((p + (digN m (s.data.toList.drop p)).2 : Nat) : Int), .bool (digN m (s.data.toList.drop p)).1])) ∧ w = w' := by
  subst hz
  subst hzm
  go_enter Tryz.func127, Tryz.ntmps127
  go_wp2
  go_loop [1, 9, 11] (fun a x i => ∃ j X k : Nat, k = p + j ∧ j ≤ m ∧ k ≤ s.size ∧ X < 16 ^ j ∧ a = .int .i64 (k : Nat) ∧ x = .int .i64 (X : Nat) ∧ i = .int .i64 (j : Nat) ∧ digN m (s.data.toList.drop p) = up j (digN (m - j) (s.data.toList.drop k))) (fun _ _ i => m - (intOf i).toNat)
  case atStart => exact ⟨0, 0, p, rfl, Nat.zero_le _, hp, by decide, rfl, rfl, rfl, by rw [up_zero]; rfl⟩
  case round =>
    obtain ⟨j, X, k, hkj, hj, hpj, hX, rfl, rfl, rfl, hg⟩ := hrel
    have HG := Lib.hid hg
    have HKJ := Lib.hid hkj
    have hX4 : X < 65536 := Nat.lt_of_lt_of_le hX (Nat.le_trans (Nat.pow_le_pow_right (by decide) (show j ≤ 4 by omega)) (Nat.le_refl (16 ^ 4)))
    have HX := Lib.hid hX
    clear hg hkj hX
    by_cases hjm : j < m
    · by_cases hlt : k < s.size
      · have hx := drop_cons s k hlt
        have hle := hexD_le s[k]
        have hH := fun W => shex_any s[k] W
        by_cases hd : 0 ≤ hexD s[k]
        · obtain ⟨d, hd'⟩ : ∃ d : Nat, hexD s[k] = d := ⟨_, (Int.toNat_of_nonneg hd).symm⟩
          have hd16 : d < 16 := by omega
          have ho := or16i X d (by omega) hd16
          have HN := Lib.hid (show digN m (s.data.toList.drop p) = up (j + 1) (digN (m - (j + 1)) (s.data.toList.drop (k + 1))) by
            rw [HG.out, hx, show m - j = (m - (j + 1)) + 1 by omega, digN, if_pos hd, up_up])
          rw [hd'] at hH
          have HH := Lib.hid hH
          clear hH hx hle hd hd' HG
          go_wp2_with (go_at_call 154; refine (HH.out _).mono ?_; rintro e w' ⟨rfl, rfl⟩)
          go_round
          case rel => exact ⟨j + 1, X * 16 + d, k + 1, by have := HKJ.out; omega, by omega, by omega, by have := HX.out; rw [Nat.pow_succ]; omega, by go_num, by first | go_num | (congr 1; omega), by go_num, HN.out⟩
          case measure => simp [intOf]; omega
        · have HN := Lib.hid (show digN m (s.data.toList.drop p) = (false, j) by
            rw [HG.out, hx, show m - j = (m - (j + 1)) + 1 by omega, digN, if_neg hd]; try rfl)
          have hd0 : hexD s[k] < 0 := by omega
          generalize hexD s[k] = dv at *
          have HH := Lib.hid hH
          clear hH hx hle hd HG
          go_wp2_with (go_at_call 154; refine (HH.out _).mono ?_; rintro e w' ⟨rfl, rfl⟩)
          go_ret3
          exact ⟨⟨_, ret3 (by rw [HN.out]; simp only; have := HKJ.out; omega) (by rw [HN.out])⟩, rfl⟩
      · obtain rfl : k = s.size := by omega
        have HN := Lib.hid (show digN m (s.data.toList.drop p) = (false, j) by
          rw [HG.out, drop_all, show m - j = (m - (j + 1)) + 1 by omega, digN]; try rfl)
        clear HG
        go_wp2
        go_ret3
        exact ⟨⟨_, ret3 (by rw [HN.out]; simp only; have := HKJ.out; omega) (by rw [HN.out])⟩, rfl⟩
    · obtain rfl : j = m := by omega
      have HN := Lib.hid (show digN j (s.data.toList.drop p) = (true, j) by rw [HG.out, Nat.sub_self]; cases s.data.toList.drop k <;> rfl)
      clear HG
      go_wp2
      go_ret3
      exact ⟨⟨_, ret3 (by rw [HN.out]; simp only; have := HKJ.out; omega) (by rw [HN.out])⟩, rfl⟩
set_option maxRecDepth 20000 in
set_option maxHeartbeats 1000000 in
theorem braced_any (s : ByteArray) (p : Nat) (w : World) (hs : s.size ≤ 16777216) (hp : p ≤ s.size) (z : Int) (hz : z = p) :
    Calls Tryz.prog 128 #[.string s, .int .i64 z] w fun e w' => (∃ x : Int, e = .returned (.tuple #[.int .i64 x, .int .i64 ((p + (brcN 0 true (s.data.toList.drop p)).2 : Nat) : Int), .bool (brcN 0 true (s.data.toList.drop p)).1])) ∧ w = w' := by
  subst hz
  go_enter Tryz.func128, Tryz.ntmps128
  go_wp2
  go_loop [1, 7, 15, 35] (fun a x _ _ => ∃ k X : Nat, p ≤ k ∧ k ≤ s.size ∧ X ≤ 1114112 ∧ a = .int .i64 (k : Nat) ∧ x = .int .i64 (X : Nat) ∧ brcN 0 true (s.data.toList.drop p) = up (k - p) (brcN X (decide (k = p)) (s.data.toList.drop k))) (fun a _ _ _ => s.size - (intOf a).toNat)
  case atStart => exact ⟨p, 0, Nat.le_refl _, hp, by decide, rfl, rfl, by rw [Nat.sub_self, up_zero, decide_eq_true rfl]; rfl⟩
  case round =>
    obtain ⟨k, X, hpk, hk, hX, rfl, rfl, hg⟩ := hrel
    have HG := Lib.hid hg
    clear hg
    by_cases hlt : k < s.size
    · have hx := drop_cons s k hlt
      have hle := hexD_le s[k]
      have hH := fun W => shex_any s[k] W
      by_cases hd : 0 ≤ hexD s[k]
      · obtain ⟨d, hd'⟩ : ∃ d : Nat, hexD s[k] = d := ⟨_, (Int.toNat_of_nonneg hd).symm⟩
        have hd16 : d < 16 := by omega
        have ho := or16i X d hX hd16
        have HN := Lib.hid (show brcN 0 true (s.data.toList.drop p) = up (k + 1 - p) (brcN (min (X * 16 + d) 1114112 : Nat) (decide (k + 1 = p)) (s.data.toList.drop (k + 1))) by
          rw [HG.out, hx, brcN, if_pos hd, up_up, hd', decide_eq_false (show ¬ k + 1 = p by omega), show k - p + 1 = k + 1 - p by omega]
          congr 2
          omega)
        rw [hd'] at hH
        have HH := Lib.hid hH
        clear hH hx hle hd hd' HG
        go_wp2_with (go_at_call 154; refine (HH.out _).mono ?_; rintro e w' ⟨rfl, rfl⟩)
        go_round
        case rel => exact ⟨k + 1, min (X * 16 + d) 1114112, by omega, by omega, by omega, by go_num, by first | go_num | (congr 1; omega), HN.out⟩
        case measure => simp [intOf]; omega
      · have HG2 := Lib.hid (show brcN 0 true (s.data.toList.drop p) = up (k - p) (if s[k] ≠ 125 ∨ decide (k = p) = true ∨ 1114111 < (X : Int) then (false, 0) else (true, 1)) by
          rw [HG.out, hx, brcN, if_neg hd])
        have hd0 : hexD s[k] < 0 := by omega
        generalize hexD s[k] = dv at *
        have HH := Lib.hid hH
        clear hH hx hle hd HG
        by_cases h125 : s[k] = 125
        · have b1 : (((s[k].toNat : Nat) : Int) != 125) = false := by rw [bne_eq_false_iff_eq, h125]; rfl
          by_cases hkp : k = p
          · have HN := Lib.hid (show brcN 0 true (s.data.toList.drop p) = (false, k - p) by rw [HG2.out, if_pos (.inr (.inl (decide_eq_true hkp)))]; rfl)
            clear HG2 h125
            subst hkp
            go_wp2_with (go_at_call 154; refine (HH.out _).mono ?_; rintro e w' ⟨rfl, rfl⟩)
            go_ret3
            exact ⟨⟨_, ret3 (by rw [HN.out]; simp only; omega) (by rw [HN.out])⟩, rfl⟩
          · have b2 : (((k : Nat) : Int) == ((p : Nat) : Int)) = false := by rw [beq_eq_false_iff_ne]; omega
            by_cases hX1 : 1114111 < X
            · have HN := Lib.hid (show brcN 0 true (s.data.toList.drop p) = (false, k - p) by rw [HG2.out, if_pos (.inr (.inr (by omega)))]; rfl)
              clear HG2 h125 hkp
              go_wp2_with (go_at_call 154; refine (HH.out _).mono ?_; rintro e w' ⟨rfl, rfl⟩)
              go_ret3
              exact ⟨⟨_, ret3 (by rw [HN.out]; simp only; omega) (by rw [HN.out])⟩, rfl⟩
            · have HN := Lib.hid (show brcN 0 true (s.data.toList.drop p) = (true, k - p + 1) by rw [HG2.out, if_neg (by rintro (h | h | h); exact h h125; exact hkp (of_decide_eq_true h); omega)]; rfl)
              clear HG2 h125 hkp
              go_wp2_with (go_at_call 154; refine (HH.out _).mono ?_; rintro e w' ⟨rfl, rfl⟩)
              go_ret3
              exact ⟨⟨_, ret3 (by rw [HN.out]; simp only; omega) (by rw [HN.out])⟩, rfl⟩
        · have b1 : (((s[k].toNat : Nat) : Int) != 125) = true := by rw [bne_iff_ne]; exact fun e => h125 (UInt8.toNat.inj (by rw [show s[k].toNat = 125 by omega]; rfl))
          have HN := Lib.hid (show brcN 0 true (s.data.toList.drop p) = (false, k - p) by rw [HG2.out, if_pos (.inl h125)]; rfl)
          clear HG2 h125
          go_wp2_with (go_at_call 154; refine (HH.out _).mono ?_; rintro e w' ⟨rfl, rfl⟩)
          go_ret3
          exact ⟨⟨_, ret3 (by rw [HN.out]; simp only; omega) (by rw [HN.out])⟩, rfl⟩
    · obtain rfl : k = s.size := by omega
      have HN := Lib.hid (show brcN 0 true (s.data.toList.drop p) = (false, s.size - p) by rw [HG.out, drop_all, brcN]; try rfl)
      clear HG
      go_wp2
      go_ret3
      exact ⟨⟨_, ret3 (by rw [HN.out]; simp only; omega) (by rw [HN.out])⟩, rfl⟩
end Go.Proofs.YteejjkfmmhegmaaGreatDoor
