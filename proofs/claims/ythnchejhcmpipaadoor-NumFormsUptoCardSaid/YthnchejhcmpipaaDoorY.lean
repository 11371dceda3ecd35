/- Contract of platenlaw2's digits. Conditions: a number from 1 to 2^24, a base of 2, 8, 10 or 16. -/
import Derived.Test.YthnchejhcmpipaaDoorN
import Derived.IntWalk
import Derived.Deep.QuietTactic
namespace Go.Proofs.YthnchejhcmpipaaDoor
open Go.RowKit

abbrev allB : ByteArray := ⟨#[48, 49, 50, 51, 52, 53, 54, 55, 56, 57, 97, 98, 99, 100, 101, 102]⟩
def dgB (d : Nat) : UInt8 := if d < 10 then UInt8.ofNat (48 + d) else UInt8.ofNat (87 + d)
/-- a number's digits in a base. -/
def digL (b n : Nat) : List UInt8 := if _h : 2 ≤ b ∧ 0 < n then digL b (n / b) ++ [dgB (n % b)] else []
termination_by n
decreasing_by exact Nat.div_lt_self _h.2 (by omega)
theorem digL_zero (b : Nat) : digL b 0 = [] := by rw [digL, dif_neg (by omega)]
theorem digL_step {b n : Nat} (hb : 2 ≤ b) (hn : 0 < n) : digL b n = digL b (n / b) ++ [dgB (n % b)] := by rw [digL, dif_pos ⟨hb, hn⟩]
theorem digL_ne {b n : Nat} (hb : 2 ≤ b) (hn : 0 < n) : digL b n ≠ [] := by rw [digL_step hb hn]; simp
theorem digL_len {b : Nat} (hb : 2 ≤ b) : ∀ (k n : Nat), n < 2 ^ k → (digL b n).length ≤ k := by
  intro k
  induction k with
  | zero => intro n h; have : n = 0 := by simpa using h
            subst this; rw [digL_zero]; exact Nat.le_refl _
  | succ k ih =>
    intro n h
    by_cases h0 : 0 < n
    · rw [digL_step hb h0, List.length_append, List.length_singleton]
      have h1 : n / b ≤ n / 2 := Nat.div_le_div_left hb (by decide)
      have := ih (n / b) (by rw [Nat.pow_succ] at h; omega)
      omega
    · have : n = 0 := by omega
      subst this; rw [digL_zero]; exact Nat.zero_le _
theorem digL_head {b : Nat} (hb : 2 ≤ b) (h16 : b ≤ 16) : ∀ n : Nat, 0 < n → (digL b n).head? ≠ some 48 := by
  intro n
  induction n using Nat.strongRecOn with
  | ind n ih =>
    intro hn
    rw [digL_step hb hn]
    by_cases h : n < b
    · rw [Nat.div_eq_of_lt h, digL_zero, List.nil_append, List.head?_cons, Nat.mod_eq_of_lt h]
      have g : ∀ k : Fin 16, 0 < k.val → dgB k.val ≠ 48 := by decide +kernel
      intro e
      exact g ⟨n, by omega⟩ hn (Option.some.inj e)
    · have h1 : 0 < n / b := Nat.div_pos (by omega) (by omega)
      have h2 := ih (n / b) (Nat.div_lt_self hn (by omega)) h1
      have h3 := digL_ne hb h1
      cases hl : digL b (n / b) with
      | nil => exact absurd hl h3
      | cons x t => rw [hl] at h2; exact h2
/-- the letter of a base. -/
def letB (b : Nat) : Nat := if b = 10 then 0 else if b = 16 then 120 else if b = 8 then 111 else 98
theorem digL_all {b : Nat} (hb : b = 2 ∨ b = 8 ∨ b = 10 ∨ b = 16) : ∀ n : Nat, ∀ c ∈ digL b n, isD (letB b) c = true ∧ c ≠ 95 := by
  intro n
  induction n using Nat.strongRecOn with
  | ind n ih =>
    intro c hc
    by_cases hn : 0 < n
    · rw [digL_step (by omega) hn] at hc
      rcases List.mem_append.1 hc with hc | hc
      · exact ih (n / b) (Nat.div_lt_self hn (by omega)) c hc
      · have hc' : c = dgB (n % b) := by simpa using hc
        have hlt : n % b < b := Nat.mod_lt _ (by omega)
        generalize n % b = d at *
        subst hc'
        have g : ∀ (i : Fin 4) (k : Fin 16), k.val < [2, 8, 10, 16][i.val]! → isD (letB [2, 8, 10, 16][i.val]!) (dgB k.val) = true ∧ dgB k.val ≠ 95 := by decide +kernel
        rcases hb with rfl | rfl | rfl | rfl
        · exact g 0 ⟨d, by omega⟩ hlt
        · exact g 1 ⟨d, by omega⟩ hlt
        · exact g 2 ⟨d, by omega⟩ hlt
        · exact g 3 ⟨d, by omega⟩ hlt
    · have : n = 0 := by omega
      subst this
      rw [digL_zero] at hc
      cases hc
theorem all_one {d : Nat} (h : d < 16) : (allB.extract d (d + 1)).data.toList = [dgB d] := by
  have g : ∀ k : Fin 16, (allB.extract k.val (k.val + 1)).data.toList = [dgB k.val] := by decide +kernel
  exact g ⟨d, h⟩
def DigR (b n y : Nat) (O : ByteArray) : Prop := digL b y ++ O.data.toList = digL b n
theorem digR_step {b n y : Nat} {O : ByteArray} (hb : 2 ≤ b) (h16 : b ≤ 16) (hy : 0 < y) (h : DigR b n y O) : DigR b n (y / b) (allB.extract (y % b) (y % b + 1) ++ O) := by
  have hlt : y % b < b := Nat.mod_lt _ (by omega)
  unfold DigR at h ⊢
  rw [ByteArray.data_append, Array.toList_append, all_one (by omega), ← h, digL_step hb hy, List.append_assoc]

theorem digR_len {b n y : Nat} {O : ByteArray} (hb : 2 ≤ b) (hn : n ≤ 16777216) (h : DigR b n y O) : O.size ≤ 25 := by
  have h1 := congrArg List.length h
  have h2 := digL_len hb 25 n (by have : (2 : Nat) ^ 25 = 33554432 := by decide
                                  omega)
  rw [List.length_append, ofl] at h1
  omega

set_option maxRecDepth 20000 in
set_option maxHeartbeats 800000 in
theorem digits_2 (n : Nat) (w : World) (h0 : 0 < n) (hn : n ≤ 16777216) (z : Int) (hz : z = n) :
    Calls Tryd.prog 15 #[.int .i64 z, .int .i64 2] w fun e w' => e = .returned (.string ⟨(digL 2 n).toArray⟩) ∧ Below w.heap.size w w' := by
  subst hz
  go_enter Tryd.func15, Tryd.ntmps15
  go_wp2
  go_loopw [0, 6] (fun x o wr => Below w.heap.size w wr ∧ ∃ (y : Nat) (O : ByteArray), y ≤ n ∧ x = .int .i64 y ∧ o = .string O ∧ DigR 2 n y O) (fun x _ _ => (intOf x).toNat)
  case atStart => exact ⟨Below.refl _ _, n, ⟨#[]⟩, Nat.le_refl _, rfl, rfl, by unfold DigR; simp⟩
  case round =>
    obtain ⟨hbw, y, O, hy, rfl, rfl, hd⟩ := hrel
    have hl := digR_len (by decide) hn hd
    by_cases hy0 : 0 < y
    · have HR := Lib.hid (digR_step (by decide) (by decide) hy0 hd)
      clear hd
      have e1 : (y : Int).tmod 2 = ((y % 2 : Nat) : Int) := by rw [Int.tmod_eq_emod_of_nonneg (by omega)]; omega
      have e2 : y % 2 < 2 := Nat.mod_lt _ (by decide)
      generalize y % 2 = r at *
      go_upto_region 4 with fail
      have e3 : IntKind.i64.wrap ((r : Int) + 1) = (r : Int) + 1 := IntWalk.i64_in _ (by omega)
      have e4 : ((r : Int) + 1).toNat = r + 1 := by omega
      have e5 : (0 : Int) ≤ (r : Int) + 1 := by omega
      have e6 : (r : Int) + 1 ≤ 16 := by omega
      have e7 : (r : Int) ≤ (r : Int) + 1 := by omega
      go_quiet (fail)
      clear e1 e2 e3 e4 e5 e6 e7
      go_wp2_with fail
      go_roundw
      case rel => exact ⟨bel_drewN hbw _, y / 2, _, by omega, by go_num, rfl, HR.out⟩
      case measure => simp [intOf]; omega
    · obtain rfl : y = 0 := by omega
      unfold DigR at hd
      rw [digL_zero, List.nil_append] at hd
      have hne : O.toList.isEmpty = false := by
        rw [Lib.toList_data, hd]
        cases hL : digL 2 n with
        | nil => exact absurd hL (digL_ne (by decide) h0)
        | cons a t => rfl
      have HO := Lib.hid (byteArray_ext O _ hd)
      clear hd
      go_wp2_with fail
      go_ret
      exact ⟨by rw [HO.out]; rfl, hbw⟩
set_option maxRecDepth 20000 in
set_option maxHeartbeats 800000 in
theorem digits_8 (n : Nat) (w : World) (h0 : 0 < n) (hn : n ≤ 16777216) (z : Int) (hz : z = n) :
    Calls Tryd.prog 15 #[.int .i64 z, .int .i64 8] w fun e w' => e = .returned (.string ⟨(digL 8 n).toArray⟩) ∧ Below w.heap.size w w' := by
  subst hz
  go_enter Tryd.func15, Tryd.ntmps15
  go_wp2
  go_loopw [0, 6] (fun x o wr => Below w.heap.size w wr ∧ ∃ (y : Nat) (O : ByteArray), y ≤ n ∧ x = .int .i64 y ∧ o = .string O ∧ DigR 8 n y O) (fun x _ _ => (intOf x).toNat)
  case atStart => exact ⟨Below.refl _ _, n, ⟨#[]⟩, Nat.le_refl _, rfl, rfl, by unfold DigR; simp⟩
  case round =>
    obtain ⟨hbw, y, O, hy, rfl, rfl, hd⟩ := hrel
    have hl := digR_len (by decide) hn hd
    by_cases hy0 : 0 < y
    · have HR := Lib.hid (digR_step (by decide) (by decide) hy0 hd)
      clear hd
      have e1 : (y : Int).tmod 8 = ((y % 8 : Nat) : Int) := by rw [Int.tmod_eq_emod_of_nonneg (by omega)]; omega
      have e2 : y % 8 < 8 := Nat.mod_lt _ (by decide)
      generalize y % 8 = r at *
      go_upto_region 4 with fail
      have e3 : IntKind.i64.wrap ((r : Int) + 1) = (r : Int) + 1 := IntWalk.i64_in _ (by omega)
      have e4 : ((r : Int) + 1).toNat = r + 1 := by omega
      have e5 : (0 : Int) ≤ (r : Int) + 1 := by omega
      have e6 : (r : Int) + 1 ≤ 16 := by omega
      have e7 : (r : Int) ≤ (r : Int) + 1 := by omega
      go_quiet (fail)
      clear e1 e2 e3 e4 e5 e6 e7
      go_wp2_with fail
      go_roundw
      case rel => exact ⟨bel_drewN hbw _, y / 8, _, by omega, by go_num, rfl, HR.out⟩
      case measure => simp [intOf]; omega
    · obtain rfl : y = 0 := by omega
      unfold DigR at hd
      rw [digL_zero, List.nil_append] at hd
      have hne : O.toList.isEmpty = false := by
        rw [Lib.toList_data, hd]
        cases hL : digL 8 n with
        | nil => exact absurd hL (digL_ne (by decide) h0)
        | cons a t => rfl
      have HO := Lib.hid (byteArray_ext O _ hd)
      clear hd
      go_wp2_with fail
      go_ret
      exact ⟨by rw [HO.out]; rfl, hbw⟩
set_option maxRecDepth 20000 in
set_option maxHeartbeats 800000 in
theorem digits_10 (n : Nat) (w : World) (h0 : 0 < n) (hn : n ≤ 16777216) (z : Int) (hz : z = n) :
    Calls Tryd.prog 15 #[.int .i64 z, .int .i64 10] w fun e w' => e = .returned (.string ⟨(digL 10 n).toArray⟩) ∧ Below w.heap.size w w' := by
  subst hz
  go_enter Tryd.func15, Tryd.ntmps15
  go_wp2
  go_loopw [0, 6] (fun x o wr => Below w.heap.size w wr ∧ ∃ (y : Nat) (O : ByteArray), y ≤ n ∧ x = .int .i64 y ∧ o = .string O ∧ DigR 10 n y O) (fun x _ _ => (intOf x).toNat)
  case atStart => exact ⟨Below.refl _ _, n, ⟨#[]⟩, Nat.le_refl _, rfl, rfl, by unfold DigR; simp⟩
  case round =>
    obtain ⟨hbw, y, O, hy, rfl, rfl, hd⟩ := hrel
    have hl := digR_len (by decide) hn hd
    by_cases hy0 : 0 < y
    · have HR := Lib.hid (digR_step (by decide) (by decide) hy0 hd)
      clear hd
      have e1 : (y : Int).tmod 10 = ((y % 10 : Nat) : Int) := by rw [Int.tmod_eq_emod_of_nonneg (by omega)]; omega
      have e2 : y % 10 < 10 := Nat.mod_lt _ (by decide)
      generalize y % 10 = r at *
      go_upto_region 4 with fail
      have e3 : IntKind.i64.wrap ((r : Int) + 1) = (r : Int) + 1 := IntWalk.i64_in _ (by omega)
      have e4 : ((r : Int) + 1).toNat = r + 1 := by omega
      have e5 : (0 : Int) ≤ (r : Int) + 1 := by omega
      have e6 : (r : Int) + 1 ≤ 16 := by omega
      have e7 : (r : Int) ≤ (r : Int) + 1 := by omega
      go_quiet (fail)
      clear e1 e2 e3 e4 e5 e6 e7
      go_wp2_with fail
      go_roundw
      case rel => exact ⟨bel_drewN hbw _, y / 10, _, by omega, by go_num, rfl, HR.out⟩
      case measure => simp [intOf]; omega
    · obtain rfl : y = 0 := by omega
      unfold DigR at hd
      rw [digL_zero, List.nil_append] at hd
      have hne : O.toList.isEmpty = false := by
        rw [Lib.toList_data, hd]
        cases hL : digL 10 n with
        | nil => exact absurd hL (digL_ne (by decide) h0)
        | cons a t => rfl
      have HO := Lib.hid (byteArray_ext O _ hd)
      clear hd
      go_wp2_with fail
      go_ret
      exact ⟨by rw [HO.out]; rfl, hbw⟩
set_option maxRecDepth 20000 in
set_option maxHeartbeats 800000 in
theorem digits_16 (n : Nat) (w : World) (h0 : 0 < n) (hn : n ≤ 16777216) (z : Int) (hz : z = n) :
    Calls Tryd.prog 15 #[.int .i64 z, .int .i64 16] w fun e w' => e = .returned (.string ⟨(digL 16 n).toArray⟩) ∧ Below w.heap.size w w' := by
  subst hz
  go_enter Tryd.func15, Tryd.ntmps15
  go_wp2
  go_loopw [0, 6] (fun x o wr => Below w.heap.size w wr ∧ ∃ (y : Nat) (O : ByteArray), y ≤ n ∧ x = .int .i64 y ∧ o = .string O ∧ DigR 16 n y O) (fun x _ _ => (intOf x).toNat)
  case atStart => exact ⟨Below.refl _ _, n, ⟨#[]⟩, Nat.le_refl _, rfl, rfl, by unfold DigR; simp⟩
  case round =>
    obtain ⟨hbw, y, O, hy, rfl, rfl, hd⟩ := hrel
    have hl := digR_len (by decide) hn hd
    by_cases hy0 : 0 < y
    · have HR := Lib.hid (digR_step (by decide) (by decide) hy0 hd)
      clear hd
      have e1 : (y : Int).tmod 16 = ((y % 16 : Nat) : Int) := by rw [Int.tmod_eq_emod_of_nonneg (by omega)]; omega
      have e2 : y % 16 < 16 := Nat.mod_lt _ (by decide)
      generalize y % 16 = r at *
      go_upto_region 4 with fail
      have e3 : IntKind.i64.wrap ((r : Int) + 1) = (r : Int) + 1 := IntWalk.i64_in _ (by omega)
      have e4 : ((r : Int) + 1).toNat = r + 1 := by omega
      have e5 : (0 : Int) ≤ (r : Int) + 1 := by omega
      have e6 : (r : Int) + 1 ≤ 16 := by omega
      have e7 : (r : Int) ≤ (r : Int) + 1 := by omega
      go_quiet (fail)
      clear e1 e2 e3 e4 e5 e6 e7
      go_wp2_with fail
      go_roundw
      case rel => exact ⟨bel_drewN hbw _, y / 16, _, by omega, by go_num, rfl, HR.out⟩
      case measure => simp [intOf]; omega
    · obtain rfl : y = 0 := by omega
      unfold DigR at hd
      rw [digL_zero, List.nil_append] at hd
      have hne : O.toList.isEmpty = false := by
        rw [Lib.toList_data, hd]
        cases hL : digL 16 n with
        | nil => exact absurd hL (digL_ne (by decide) h0)
        | cons a t => rfl
      have HO := Lib.hid (byteArray_ext O _ hd)
      clear hd
      go_wp2_with fail
      go_ret
      exact ⟨by rw [HO.out]; rfl, hbw⟩
end Go.Proofs.YthnchejhcmpipaaDoor
