/- Plain laws of decimal digits, and the contract of num.small. Conditions: digits; a bound of at most 2^24. -/
import Derived.Test.YthnchejhcmpipaaDoorB
import Derived.Lib.TrimByte
namespace Go.Proofs.YthnchejhcmpipaaDoor
open Go.RowKit

def isDig (c : UInt8) : Bool := decide (48 ≤ c.toNat ∧ c.toNat ≤ 57)
def allDig (l : List UInt8) : Prop := ∀ c ∈ l, 48 ≤ c.toNat ∧ c.toNat ≤ 57
/-- a number's value, from what is read on. -/
def valGo (n : Nat) (l : List UInt8) : Nat := l.foldl (fun n c => 10 * n + (c.toNat - 48)) n
def valN (l : List UInt8) : Nat := valGo 0 l
theorem valGo_nil (n : Nat) : valGo n [] = n := by unfold valGo; rw [List.foldl_nil]
theorem valGo_cons (n : Nat) (c : UInt8) (l : List UInt8) : valGo n (c :: l) = valGo (10 * n + (c.toNat - 48)) l := by unfold valGo; rw [List.foldl_cons]
theorem pow_pos' (k : Nat) : 0 < 10 ^ k := Nat.pow_pos (by decide)
theorem valGo_add : ∀ (l : List UInt8) (n : Nat), valGo n l = n * 10 ^ l.length + valGo 0 l
  | [], n => by simp [valGo_nil]
  | c :: l, n => by
    rw [valGo_cons, valGo_cons, valGo_add l (10 * n + (c.toNat - 48)), valGo_add l (10 * 0 + (c.toNat - 48)), List.length_cons, Nat.pow_succ]
    rw [Nat.add_mul, Nat.mul_zero, Nat.zero_add, ← Nat.add_assoc]
    congr 2
    rw [Nat.mul_comm 10 n, Nat.mul_assoc, Nat.mul_comm 10]
theorem valGo_ge (l : List UInt8) (n : Nat) : n ≤ valGo n l := by
  rw [valGo_add]
  have := Nat.mul_le_mul_left n (pow_pos' l.length)
  omega
theorem valN_append (a b : List UInt8) : valN (a ++ b) = valN a * 10 ^ b.length + valN b := by
  unfold valN
  rw [← valGo_add]
  unfold valGo
  rw [List.foldl_append]
theorem valN_one (c : UInt8) : valN [c] = c.toNat - 48 := by simp [valN, valGo_cons, valGo_nil]
theorem valN_snoc (a : List UInt8) (c : UInt8) : valN (a ++ [c]) = 10 * valN a + (c.toNat - 48) := by
  rw [valN_append, valN_one]
  simp
  omega
theorem valN_cons (c : UInt8) (l : List UInt8) : valN (c :: l) = (c.toNat - 48) * 10 ^ l.length + valN l := by
  have := valN_append [c] l
  rw [valN_one] at this
  exact this
theorem valN_lt {l : List UInt8} (h : allDig l) : valN l < 10 ^ l.length := by
  induction l with
  | nil => simp [valN, valGo_nil]
  | cons c l ih =>
    have h1 := ih (fun d hd => h d (List.mem_cons_of_mem _ hd))
    have h2 := h c List.mem_cons_self
    rw [valN_cons, List.length_cons, Nat.pow_succ]
    have : (c.toNat - 48) * 10 ^ l.length ≤ 9 * 10 ^ l.length := Nat.mul_le_mul_right _ (by omega)
    omega
theorem digB_of {c : UInt8} (h : 48 ≤ c.toNat ∧ c.toNat ≤ 57) : digB (c.toNat - 48) = c := UInt8.toNat.inj (by rw [digB_toNat (by omega)]; omega)
/-- canonical: digits without a nought ahead. -/
def canonD (l : List UInt8) : Prop := allDig l ∧ l ≠ [] ∧ (l.length = 1 ∨ l.head? ≠ some 48)
theorem decL_val : ∀ (n : Nat) (l : List UInt8), l.length ≤ n → canonD l → decL (valN l) = l := by
  intro n
  induction n with
  | zero => intro l hl hc; exact absurd (List.length_eq_zero_iff.1 (by omega)) hc.2.1
  | succ n ih =>
    intro l hl ⟨hd, hne, hh⟩
    obtain ⟨m, c, rfl⟩ : ∃ m c, l = m ++ [c] := ⟨l.dropLast, l.getLast hne, (List.dropLast_concat_getLast hne).symm⟩
    have hc := hd c (by simp)
    rw [valN_snoc]
    by_cases hm : m = []
    · subst hm
      show decL (10 * 0 + (c.toNat - 48)) = [c]
      rw [decL_small (by omega), Nat.mul_zero, Nat.zero_add, digB_of hc]
    · have hlm : 0 < m.length := List.length_pos_iff.2 hm
      have hhd : m.head? ≠ some 48 := by
        rcases hh with h1 | h1
        · rw [List.length_append, List.length_singleton] at h1; omega
        · cases m with
          | nil => exact absurd rfl hm
          | cons x m' => exact h1
      have hmd : allDig m := fun d h => hd d (by simp [h])
      have hpos : 1 ≤ valN m := by
        cases m with
        | nil => exact absurd rfl hm
        | cons x m' =>
          have hx := hmd x List.mem_cons_self
          have hx48 : x.toNat ≠ 48 := fun e => hhd (by
            rw [show x = 48 from UInt8.toNat.inj e]
            rfl)
          rw [valN_cons]
          have : 1 * 1 ≤ (x.toNat - 48) * 10 ^ m'.length := Nat.mul_le_mul (by omega) (pow_pos' _)
          omega
      have hi := ih m (by rw [List.length_append, List.length_singleton] at hl; omega) ⟨hmd, hm, .inr hhd⟩
      rw [decL, if_neg (by omega), show (10 * valN m + (c.toNat - 48)) / 10 = valN m by omega, show (10 * valN m + (c.toNat - 48)) % 10 = c.toNat - 48 by omega, hi, digB_of hc]
theorem decL_canon {l : List UInt8} (h : canonD l) : decL (valN l) = l := decL_val l.length l (Nat.le_refl _) h
/-- what small answers. -/
def smallZ (l : List UInt8) (most : Nat) : Int := if valN l ≤ most then valN l else -1

set_option maxRecDepth 20000 in
set_option maxHeartbeats 800000 in
theorem small_any (s : ByteArray) (most : Nat) (w : World) (hs : s.size ≤ 16777216) (hm : most ≤ 16777216) (hd : allDig s.data.toList) :
    Calls Tryd.prog 47 #[.string s, .int .i64 most] w fun e w' => e = .returned (.int .i64 (smallZ s.data.toList most)) ∧ w = w' := by
  have HD := Lib.hid hd
  clear hd
  go_enter Tryd.func47, Tryd.ntmps47
  go_wp2
  go_loop [9, 5, 6] (fun i n _ => ∃ k m : Nat, k ≤ s.size ∧ i = .int .i64 k ∧ m ≤ most ∧ n = .int .i64 m ∧ valN s.data.toList = valGo m (s.data.toList.drop k)) (fun i _ _ => s.size - (intOf i).toNat)
  case atStart => exact ⟨0, 0, Nat.zero_le _, rfl, Nat.zero_le _, rfl, rfl⟩
  case round =>
    obtain ⟨k, m, hk, rfl, hmm, rfl, hv⟩ := hrel
    have HV := Lib.hid hv
    clear hv
    by_cases hlt : k < s.size
    · have hx := HD.out s[k] (List.mem_of_getElem? (get_data s k hlt))
      have hdk := drop_cons s k hlt
      have HN := Lib.hid (show valN s.data.toList = valGo (10 * m + (s[k].toNat - 48)) (s.data.toList.drop (k + 1)) by rw [HV.out, hdk]; rfl)
      by_cases hgt : most < 10 * m + (s[k].toNat - 48)
      · have HZ := Lib.hid (show smallZ s.data.toList most = -1 by
          unfold smallZ
          rw [if_neg]
          rw [HN.out]
          have := valGo_ge (s.data.toList.drop (k + 1)) (10 * m + (s[k].toNat - 48))
          omega)
        clear hdk
        go_wp2_with fail
        go_ret
        exact ⟨by rw [HZ.out]; rfl, rfl⟩
      · clear hdk
        go_wp2_with fail
        go_round
        case rel => exact ⟨k + 1, 10 * m + (s[k].toNat - 48), by omega, by go_num, by omega, by go_num, HN.out⟩
        case measure => simp [intOf]; omega
    · obtain rfl : k = s.size := by omega
      have HZ := Lib.hid (show smallZ s.data.toList most = m by
        have h := HV.out
        rw [drop_all] at h
        unfold smallZ
        rw [if_pos (by rw [h]; exact hmm), h]
        rfl)
      go_wp2_with fail
      go_ret
      exact ⟨by rw [HZ.out]; rfl, rfl⟩
end Go.Proofs.YthnchejhcmpipaaDoor
