/- Contracts of small functions of package jsx: hex, number, named, entity. No condition but the sizes that are written at each. -/
import Derived.Test.YtcflmpnkmchdoaaDoorRows
import Derived.Test.YtcflmpnkmchdoaaDoorP
import Derived.WalkKit
import Derived.WalkSpells
import Derived.WalkLawsBesides
import Derived.Lib.Hide
import Derived.Lib.Strings
namespace Go.Proofs.YtcflmpnkmchdoaaDoor
open Go.RowKit

theorem or32 (c : UInt8) : bits BinOp.or IntKind.u8 (c.toNat : Int) 32 = ((c.toNat ||| 32 : Nat) : Int) := by
  have h : ∀ n : Fin 256, bits BinOp.or IntKind.u8 ((n.val : Nat) : Int) 32 = ((n.val ||| 32 : Nat) : Int) := by decide +kernel
  exact h ⟨c.toNat, c.toNat_lt⟩
theorem ret_int {k : IntKind} {a b : Int} (h : a = b) : Ending.returned (.int k a) = .returned (.int k b) := by rw [h]
set_option maxHeartbeats 400000 in
theorem hex_any (c : UInt8) (w : World) :
    Calls Tryd.prog 54 #[.int .u8 c.toNat] w fun e w' => e = .returned (.int .u32 (hexV c)) ∧ w = w' := by
  have ho := or32 c
  have hl := or32_lt c
  have hc := c.toNat_lt
  go_enter Tryd.func54, Tryd.ntmps54
  go_wp2
  all_goals
    go_ret
    refine ⟨ret_int ?_, rfl⟩
    unfold hexV
    split <;> try split
    all_goals omega
theorem drop_cons (s : ByteArray) (k : Nat) (h : k < s.size) : s.data.toList.drop k = s[k] :: s.data.toList.drop (k + 1) := by
  rw [List.drop_eq_getElem_cons (by simpa using h)]; rfl
theorem drop_all (s : ByteArray) : s.data.toList.drop s.size = [] := List.drop_eq_nil_of_le (by simp)
theorem ofl (s : ByteArray) : s.data.toList.length = s.size := by simp

set_option maxHeartbeats 400000 in
theorem number10 (s : ByteArray) (w : World) (hs : s.size ≤ 16777216) :
    Calls Tryd.prog 36 #[.string s, .int .u32 10] w fun e w' => e = .returned (.tuple #[.int .u32 (numR 10 s.data.toList).1, .bool (numR 10 s.data.toList).2]) ∧ w = w' := by
  go_enter Tryd.func36, Tryd.ntmps36
  go_wp2
  go_loop [11, 6, 7, 8] (fun i n i' d => ∃ k m : Nat, k ≤ s.size ∧ i = .int .i64 k ∧ m ≤ 1114112 ∧ n = .int .u32 m ∧ numGo 10 0 s.data.toList = numGo 10 m (s.data.toList.drop k)) (fun i _ _ _ => s.size - (intOf i).toNat)
  case atStart => exact ⟨0, 0, Nat.zero_le _, rfl, by omega, rfl, rfl⟩
  case round =>
    obtain ⟨k, m, hk, rfl, hm, rfl, hg⟩ := hrel
    by_cases hlt : k < s.size
    · have hv := hexV_le s[k]
      have HG : Hid (numGo 10 0 s.data.toList = if hexV s[k] < 10 then numGo 10 (min (m * 10 + hexV s[k]) 1114112) (s.data.toList.drop (k + 1)) else none) := by
        rw [hg, drop_cons s k hlt]; rfl
      clear hg
      by_cases hd : hexV s[k] < 10
      · go_wp2_with (go_at_call 54; refine (hex_any _ _).mono ?_; rintro e w' ⟨rfl, rfl⟩)
        go_round
        case rel => exact ⟨k + 1, min (m * 10 + hexV s[k]) 1114112, by omega, by go_num, by omega, by congr 1; split <;> omega, by rw [HG.out, if_pos hd]⟩
        case measure => simp [intOf]; omega
      · go_wp2_with (go_at_call 54; refine (hex_any _ _).mono ?_; rintro e w' ⟨rfl, rfl⟩)
        go_ret2
        refine ⟨?_, rfl⟩
        have h0 := HG.out
        rw [if_neg hd] at h0
        simp [numR, h0]
    · obtain rfl : k = s.size := by omega
      rw [drop_all] at hg
      have HG := Lib.hid hg
      clear hg
      go_wp2
      go_ret2
      refine ⟨?_, rfl⟩
      rw [numR, HG.out]
      simp [numGo, Lib.toList_data]

theorem or16 (m d : Nat) (hm : m ≤ 1114112) (hd : d < 16) : bits BinOp.or IntKind.u32 ((m : Int) * 16) (d : Int) = (m : Int) * 16 + d := by
  have h1 : (m * 16) ||| d = m * 16 + d := by
    have := Nat.two_pow_add_eq_or_of_lt (i := 4) (b := d) (by omega) m
    rw [show (2 : Nat) ^ 4 * m = m * 16 by omega] at this
    omega
  have e : IntKind.u32.bits = 32 := rfl
  simp only [bits, BitVec.toNat_or, BitVec.toNat_ofInt, e]
  rw [show ((m : Int) * 16 % ((2 ^ 32 : Nat) : Int)).toNat = m * 16 by omega, show ((d : Int) % ((2 ^ 32 : Nat) : Int)).toNat = d by omega, h1]
  rw [IntWalk.u32_in _ (by omega)]
  omega
set_option maxHeartbeats 400000 in
theorem number16 (s : ByteArray) (w : World) (hs : s.size ≤ 16777216) :
    Calls Tryd.prog 36 #[.string s, .int .u32 16] w fun e w' => e = .returned (.tuple #[.int .u32 (numR 16 s.data.toList).1, .bool (numR 16 s.data.toList).2]) ∧ w = w' := by
  go_enter Tryd.func36, Tryd.ntmps36
  go_wp2
  go_loop [11, 6, 7, 8] (fun i n i' d => ∃ k m : Nat, k ≤ s.size ∧ i = .int .i64 k ∧ m ≤ 1114112 ∧ n = .int .u32 m ∧ numGo 16 0 s.data.toList = numGo 16 m (s.data.toList.drop k)) (fun i _ _ _ => s.size - (intOf i).toNat)
  case atStart => exact ⟨0, 0, Nat.zero_le _, rfl, by omega, rfl, rfl⟩
  case round =>
    obtain ⟨k, m, hk, rfl, hm, rfl, hg⟩ := hrel
    by_cases hlt : k < s.size
    · have hv := hexV_le s[k]
      have HG : Hid (numGo 16 0 s.data.toList = if hexV s[k] < 16 then numGo 16 (min (m * 16 + hexV s[k]) 1114112) (s.data.toList.drop (k + 1)) else none) := by
        rw [hg, drop_cons s k hlt]; rfl
      clear hg
      by_cases hd : hexV s[k] < 16
      · have ho := or16 m (hexV s[k]) hm hd
        go_wp2_with (go_at_call 54; refine (hex_any _ _).mono ?_; rintro e w' ⟨rfl, rfl⟩)
        go_round
        case rel => exact ⟨k + 1, min (m * 16 + hexV s[k]) 1114112, by omega, by go_num, by omega, by congr 1; split <;> omega, by rw [HG.out, if_pos hd]⟩
        case measure => simp [intOf]; omega
      · go_wp2_with (go_at_call 54; refine (hex_any _ _).mono ?_; rintro e w' ⟨rfl, rfl⟩)
        go_ret2
        refine ⟨?_, rfl⟩
        have h0 := HG.out
        rw [if_neg hd] at h0
        simp [numR, h0]
    · obtain rfl : k = s.size := by omega
      rw [drop_all] at hg
      have HG := Lib.hid hg
      clear hg
      go_wp2
      go_ret2
      refine ⟨?_, rfl⟩
      rw [numR, HG.out]
      simp [numGo, Lib.toList_data]
set_option maxHeartbeats 400000 in
theorem named_any (s : ByteArray) (w : World) :
    Calls Tryd.prog 37 #[.string s] w fun e w' => e = .returned (.int .i32 (named s.data.toList)) ∧ w = w' := by
  rw [← Lib.toList_data]
  go_enter Tryd.func37, Tryd.ntmps37
  go_wp2
  all_goals
    go_ret
    refine ⟨ret_int ?_, rfl⟩
    simp only [named, *, if_true, if_false, Bool.false_eq_true]
    rfl
end Go.Proofs.YtcflmpnkmchdoaaDoor
