/- Contract of num.more. Conditions: canonical digits of at most 2^24 bytes; the small number is at most 2^22 either way. -/
import Derived.Test.YthnchejhcmpipaaDoorI
namespace Go.Proofs.YthnchejhcmpipaaDoor
open Go.RowKit

/-- the number. -/
def moreZ (p : Nat) (minus : Bool) (z : Int) : Int := (if minus then -(p : Int) else p) + z
theorem decL_zero : decL 0 = [48] := by rw [decL_small (by decide)]; rfl
theorem decL_48 {n : Nat} (h : decL n = [48]) : n = 0 := by
  by_cases h10 : n < 10
  · rw [decL_small h10] at h
    have := congrArg UInt8.toNat (List.cons.inj h).1
    rw [digB_toNat h10] at this
    have e48 : (48 : UInt8).toNat = 48 := rfl
    omega
  · rw [decL_big h10] at h
    have h1 := congrArg List.length h
    rw [List.length_append, List.length_singleton] at h1
    have hpos : ∀ m, 0 < (decL m).length := fun m => by
      by_cases hm : m < 10
      · rw [decL_small hm]; simp
      · rw [decL, if_neg hm]; simp
    have a1 := hpos (n / 10)
    have a2 := hpos (n % 10)
    omega
/-- what more answers. -/
def moreA (p : Nat) (minus : Bool) (z : Int) : Ending := .returned (.tuple #[.string ⟨(decL (moreZ p minus z).natAbs).toArray⟩, .bool (decide (moreZ p minus z < 0))])
theorem more_pos (s : ByteArray) (minus : Bool) (b : Nat) (w : World) (hs : s.size ≤ 16777216) (hb : b ≤ 4194304) (hD : canonD s.data.toList) (z : Int) (hz : z = b) :
    Calls Tryd.prog 24 #[.string s, .bool minus, .int .i64 z] w fun e w' => e = moreA (valN s.data.toList) minus z ∧ Below w.heap.size w w' := by
  subst hz
  cases minus with
  | false =>
    refine (more_add s b w hs hb hD).mono fun e w' ⟨he, hw⟩ => ⟨he.trans ?_, hw⟩
    unfold moreA moreZ
    rw [show ((if false = true then -(valN s.data.toList : Int) else (valN s.data.toList : Int)) + (b : Int)) = ((valN s.data.toList + b : Nat) : Int) by simp, Int.natAbs_natCast, decide_eq_false (by omega)]
  | true =>
    refine (more_sub s b w hs hb hD).mono fun e w' ⟨he, hw⟩ => ⟨he.trans ?_, hw⟩
    unfold moreA moreZ moreSub
    by_cases h : valN s.data.toList ≤ b
    · rw [if_pos h, show ((if true = true then -(valN s.data.toList : Int) else (valN s.data.toList : Int)) + (b : Int)) = ((b - valN s.data.toList : Nat) : Int) by simp; omega, Int.natAbs_natCast, decide_eq_false (by omega)]
    · rw [if_neg h, show ((if true = true then -(valN s.data.toList : Int) else (valN s.data.toList : Int)) + (b : Int)) = -((valN s.data.toList - b : Nat) : Int) by simp; omega, Int.natAbs_neg, Int.natAbs_natCast, decide_eq_true (by omega)]

set_option maxRecDepth 20000 in
set_option maxHeartbeats 1000000 in
theorem more_any (s : ByteArray) (minus : Bool) (z : Int) (w : World) (hs : s.size ≤ 16777216) (h1 : -4194304 ≤ z) (h2 : z ≤ 4194304) (hD : canonD s.data.toList) :
    Calls Tryd.prog 24 #[.string s, .bool minus, .int .i64 z] w fun e w' => e = moreA (valN s.data.toList) minus z ∧ Below w.heap.size w w' := by
  by_cases hz : 0 ≤ z
  · exact more_pos s minus z.toNat w hs (by omega) hD z (by omega)
  · have hin := fun (W : World) (y : Int) (hy : y = (-z).toNat) => more_pos s (!minus) (-z).toNat W hs (by omega) hD y hy
    have hneg : moreZ (valN s.data.toList) (!minus) (-z) = -moreZ (valN s.data.toList) minus z := by
      unfold moreZ
      cases minus <;> simp <;> omega
    have hA : moreA (valN s.data.toList) (!minus) (-z) = .returned (.tuple #[.string ⟨(decL (moreZ (valN s.data.toList) minus z).natAbs).toArray⟩, .bool (decide (0 < moreZ (valN s.data.toList) minus z))]) := by
      unfold moreA
      rw [hneg, Int.natAbs_neg]
      congr 5
      simp
    have hB : moreA (valN s.data.toList) minus z = .returned (.tuple #[.string ⟨(decL (moreZ (valN s.data.toList) minus z).natAbs).toArray⟩, .bool (decide (moreZ (valN s.data.toList) minus z < 0))]) := rfl
    have hin2 : ∀ (W : World) (y : Int), y = -z → Calls Tryd.prog 24 #[.string s, .bool (!minus), .int .i64 y] W fun e w' => e = .returned (.tuple #[.string ⟨(decL (moreZ (valN s.data.toList) minus z).natAbs).toArray⟩, .bool (decide (0 < moreZ (valN s.data.toList) minus z))]) ∧ Below W.heap.size W w' := fun W y hy => by
      subst hy
      have := hin W (-z) (by omega)
      rw [hA] at this
      exact this
    rw [hB]
    generalize moreZ (valN s.data.toList) minus z = v at *
    obtain ⟨T, hT⟩ : ∃ T : ByteArray, (⟨(decL v.natAbs).toArray⟩ : ByteArray) = T := ⟨_, rfl⟩
    have hTl : T.data.toList = decL v.natAbs := by rw [← hT]
    rw [hT] at hin2 ⊢
    have HIN := Lib.hid hin2
    clear hin hin2 hA hB hneg hT
    by_cases hv0 : v = 0
    · have hT0 : T = ⟨#[48]⟩ := (byteArray_ext T [48] (by rw [hTl, hv0]; exact decL_zero)).symm
      subst hT0
      have HV := Lib.hid hv0
      have HINV := Lib.hid (show ∀ (W : World) (y : Int), y = -z → Calls Tryd.prog 24 #[.string s, .bool (!minus), .int .i64 y] W fun e w' => e = .returned (.tuple #[.string ⟨#[48]⟩, .bool false]) ∧ Below W.heap.size W w' from fun W y hy => by
        have := HIN.out W y hy
        rw [decide_eq_false (show ¬ 0 < v by omega)] at this
        exact this)
      clear hTl hv0
      cases minus
      all_goals
        go_enter Tryd.func24, Tryd.ntmps24
        go_wp2_with (go_at_call 24; refine (HINV.out _ _ (by omega)).mono ?_; rintro e w1 ⟨rfl, hb1⟩)
        go_ret2
        exact ⟨by rw [decide_eq_false (show ¬ v < 0 by have := HV.out; omega)]; rfl, hb1⟩
    · have hne : T.toList ≠ [48] := fun e => by
        rw [Lib.toList_data, hTl] at e
        have := decL_48 e
        omega
      by_cases hp : 0 < v
      · have HV := Lib.hid hp
        have HINV := Lib.hid (show ∀ (W : World) (y : Int), y = -z → Calls Tryd.prog 24 #[.string s, .bool (!minus), .int .i64 y] W fun e w' => e = .returned (.tuple #[.string T, .bool true]) ∧ Below W.heap.size W w' from fun W y hy => by
          have := HIN.out W y hy
          rw [decide_eq_true hp] at this
          exact this)
        clear hTl hv0 hne hp HIN
        cases minus
        all_goals
          go_enter Tryd.func24, Tryd.ntmps24
          go_wp2_with (go_at_call 24; refine (HINV.out _ _ (by omega)).mono ?_; rintro e w1 ⟨rfl, hb1⟩)
          go_ret2
          exact ⟨by rw [decide_eq_false (show ¬ v < 0 by have := HV.out; omega)]; rfl, hb1⟩
      · have HV := Lib.hid (show v < 0 by omega)
        have HINV := Lib.hid (show ∀ (W : World) (y : Int), y = -z → Calls Tryd.prog 24 #[.string s, .bool (!minus), .int .i64 y] W fun e w' => e = .returned (.tuple #[.string T, .bool false]) ∧ Below W.heap.size W w' from fun W y hy => by
          have := HIN.out W y hy
          rw [decide_eq_false hp] at this
          exact this)
        have hne1 : (T.toList == [48]) = false := by rw [beq_eq_false_iff_ne]; exact hne
        have hne2 : (T.toList != [48]) = true := by rw [bne_iff_ne]; exact hne
        clear hTl hv0 hp HIN
        cases minus
        all_goals
          go_enter Tryd.func24, Tryd.ntmps24
          go_wp2_with (go_at_call 24; refine (HINV.out _ _ (by omega)).mono ?_; rintro e w1 ⟨rfl, hb1⟩)
          go_ret2
          exact ⟨by rw [decide_eq_true HV.out]; rfl, hb1⟩
end Go.Proofs.YthnchejhcmpipaaDoor
