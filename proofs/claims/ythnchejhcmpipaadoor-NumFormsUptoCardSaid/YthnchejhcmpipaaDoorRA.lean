/- The reference's small functions: value, run, ahead, number, plain, small. Conditions: at most 2^24 bytes; number: at most nine digits. -/
import Derived.Test.YthnchejhcmpipaaDoorJ
import Derived.Test.YthnchejhcmpipaaDoorK
import Derived.IntWalk
import Derived.Laws.AppendOwnNone
namespace Go.Proofs.YthnchejhcmpipaaDoor
open Go.RowKit

def valD (c : UInt8) : Nat := if 48 ≤ c.toNat ∧ c.toNat ≤ 57 then c.toNat - 48 else if 97 ≤ c.toNat ∧ c.toNat ≤ 102 then c.toNat - 87 else if 65 ≤ c.toNat ∧ c.toNat ≤ 70 then c.toNat - 55 else 99
def BaseOk (b β : Nat) : Prop := ∀ c : UInt8, valD c < b ↔ isD β c = true
theorem all_bytesA {P : UInt8 → Prop} (h : ∀ n : Fin 256, P (UInt8.ofNat n.val)) (c : UInt8) : P c := by
  have := h ⟨c.toNat, c.toNat_lt⟩
  simpa using this
theorem base10ok : BaseOk 10 0 := all_bytesA (P := fun c => valD c < 10 ↔ isD 0 c = true) (by decide +kernel)
theorem base16ok : BaseOk 16 120 := all_bytesA (P := fun c => valD c < 16 ↔ isD 120 c = true) (by decide +kernel)
theorem base8ok : BaseOk 8 111 := all_bytesA (P := fun c => valD c < 8 ↔ isD 111 c = true) (by decide +kernel)
theorem base2ok : BaseOk 2 98 := all_bytesA (P := fun c => valD c < 2 ↔ isD 98 c = true) (by decide +kernel)
set_option maxHeartbeats 800000 in
theorem value_any (c : UInt8) (w : World) : Calls Tryd.prog 68 #[.int .u8 c.toNat] w fun e w' => e = .returned (.int .i64 (valD c)) ∧ w = w' := by
  have hc := c.toNat_lt
  go_enter Tryd.func68, Tryd.ntmps68
  go_wp2
  all_goals
    go_ret
    refine ⟨ret_int ?_, rfl⟩
    unfold valD
    repeat' split
    all_goals omega
/-- how many bytes the digits of a base are; -1: a _ stands wrong. -/
def runZ (β : Nat) (l : List UInt8) : Int := if (l.drop (runN β false l)).head? = some 95 then -1 else runN β false l
structure RunF (β : Nat) (s : ByteArray) (i k : Nat) (p : Bool) : Prop where
  eq : runN β false (s.data.toList.drop i) = (k - i) + runN β p (s.data.toList.drop k)
  le : i ≤ k
  at0 : k = i → p = false
  prev : ∀ h : k - 1 < s.size, i < k → p = !(s[k - 1] == 95)
theorem runF_stop {β i k : Nat} {s : ByteArray} {p : Bool} (h : RunF β s i k p) (hw : runN β p (s.data.toList.drop k) = 0) (hh : (s.data.toList.drop k).head? ≠ some 95) : runZ β (s.data.toList.drop i) = (k : Int) - i := by
  have hle := h.le
  have e : runN β false (s.data.toList.drop i) = k - i := by rw [h.eq, hw]; rfl
  unfold runZ
  rw [e, List.drop_drop, show i + (k - i) = k by omega, if_neg hh]
  omega
theorem runF_bad {β i k : Nat} {s : ByteArray} {p : Bool} (h : RunF β s i k p) (hw : runN β p (s.data.toList.drop k) = 0) (hh : (s.data.toList.drop k).head? = some 95) : runZ β (s.data.toList.drop i) = -1 := by
  have hle := h.le
  have e : runN β false (s.data.toList.drop i) = k - i := by rw [h.eq, hw]; rfl
  unfold runZ
  rw [e, List.drop_drop, show i + (k - i) = k by omega, if_pos hh]
set_option maxRecDepth 100000 in
set_option maxHeartbeats 2000000 in
theorem runz_any (s : ByteArray) (i b β : Nat) (w : World) (hB : BaseOk b β) (hi : i ≤ s.size) (hs : s.size ≤ 16777216) (z : Int) (hz : z = i) :
    Calls Tryd.prog 51 #[.string s, .int .i64 z, .int .i64 b] w fun e w' => e = .returned (.int .i64 (runZ β (s.data.toList.drop i))) ∧ w = w' := by
  subst hz
  have HB := Lib.hid hB
  clear hB
  go_enter Tryd.func51, Tryd.ntmps51
  go_wp2
  go_loop [1] (fun x => ∃ (k : Nat) (p : Bool), k ≤ s.size ∧ i ≤ k ∧ x = .int .i64 k ∧ RunF β s i k p) (fun x => s.size - (intOf x).toNat)
  case atStart => exact ⟨i, false, hi, Nat.le_refl _, rfl, by simp, Nat.le_refl _, fun _ => rfl, fun _ h => absurd h (by omega)⟩
  case round =>
    obtain ⟨k, p, hk, hik, rfl, hr⟩ := hrel
    have HR := Lib.hid hr
    clear hr
    by_cases hlt : k < s.size
    · have hx := drop_cons s k hlt
      have hv := HB.out s[k]
      by_cases hd : isD β s[k] = true
      · have hvl : (valD s[k] : Int) < (b : Int) := by have := hv.2 hd; omega
        have hne : s[k] ≠ 95 := fun e => by rw [e, isD_95] at hd; cases hd
        have b1 : (((s[k].toNat : Nat) : Int) == 95) = false := ne_fact hne
        have HN := Lib.hid (show RunF β s i (k + 1) true from ⟨by rw [HR.out.eq, hx, runN, if_pos hd]; omega, by omega, fun h => by omega, fun h _ => by simp [hne]⟩)
        clear hx hv hd hne HR
        go_wp2_with (go_at_call 68; refine (value_any _ _).mono ?_; rintro e w' ⟨rfl, rfl⟩)
        go_round
        case rel => exact ⟨k + 1, true, by omega, by omega, by go_num, HN.out⟩
        case measure => simp [intOf]; omega
      · have hvl : (b : Int) ≤ (valD s[k] : Int) := by have := mt hv.1 hd; omega
        by_cases h95 : s[k] = 95
        · have b1 : (((s[k].toNat : Nat) : Int) == 95) = true := eq_fact h95
          have hh : (s.data.toList.drop k).head? = some 95 := by rw [hx, List.head?_cons, h95]
          by_cases hki : k = i
          · have hpf := HR.out.at0 hki
            have hw : runN β p (s.data.toList.drop k) = 0 := by rw [hx, runN, if_neg hd, if_neg (by rw [hpf]; exact fun h => absurd h.2.1 (by decide))]
            have HE := Lib.hid (runF_bad HR.out hw hh)
            have hki2 : ((k : Int) == (i : Int)) = true := by rw [beq_iff_eq]; omega
            clear hx hv hd h95 hh hpf hw hki HR
            go_wp2_with (go_at_call 68; refine (value_any _ _).mono ?_; rintro e w' ⟨rfl, rfl⟩)
            go_ret
            exact ⟨by rw [HE.out]; rfl, rfl⟩
          · have hk1 : k - 1 < s.size := by omega
            have hki2 : ((k : Int) == (i : Int)) = false := by rw [beq_eq_false_iff_ne]; omega
            have hkp : 0 < k := by omega
            by_cases hp : s[k - 1] = 95
            · have b2 : (((s[k - 1].toNat : Nat) : Int) == 95) = true := eq_fact hp
              have hpf : p = false := by rw [HR.out.prev hk1 (by omega), hp]; rfl
              have hw : runN β p (s.data.toList.drop k) = 0 := by rw [hx, runN, if_neg hd, if_neg (by rw [hpf]; exact fun h => absurd h.2.1 (by decide))]
              have HE := Lib.hid (runF_bad HR.out hw hh)
              clear hx hv hd h95 hh hpf hw hki HR hp
              go_wp2_with (go_at_call 68; refine (value_any _ _).mono ?_; rintro e w' ⟨rfl, rfl⟩)
              go_ret
              exact ⟨by rw [HE.out]; rfl, rfl⟩
            · have b2 : (((s[k - 1].toNat : Nat) : Int) == 95) = false := ne_fact hp
              have hpt : p = true := by rw [HR.out.prev hk1 (by omega)]; simp [hp]
              by_cases hl2 : k + 1 < s.size
              · have hhd : headD β (s.data.toList.drop (k + 1)) = isD β s[k + 1] := by rw [drop_cons s (k + 1) hl2]; rfl
                have hv2 := HB.out s[k + 1]
                by_cases hd2 : isD β s[k + 1] = true
                · have hvl2 : (valD s[k + 1] : Int) < (b : Int) := by have := hv2.2 hd2; omega
                  have HN := Lib.hid (show RunF β s i (k + 1) false from ⟨by rw [HR.out.eq, hx, runN, if_neg hd, if_pos ⟨h95, hpt, by rw [hhd]; exact hd2⟩]; omega, by omega, fun h => by omega, fun h _ => by simp [h95]⟩)
                  clear hx hv hd h95 hh hki HR hp hpt hhd hv2 hd2
                  go_wp2_with (go_at_call 68; refine (value_any _ _).mono ?_; rintro e w' ⟨rfl, rfl⟩)
                  go_round
                  case rel => exact ⟨k + 1, false, by omega, by omega, by go_num, HN.out⟩
                  case measure => simp [intOf]; omega
                · have hvl2 : (b : Int) ≤ (valD s[k + 1] : Int) := by have := mt hv2.1 hd2; omega
                  have hw : runN β p (s.data.toList.drop k) = 0 := by rw [hx, runN, if_neg hd, if_neg (by rw [hhd]; exact fun h => hd2 h.2.2)]
                  have HE := Lib.hid (runF_bad HR.out hw hh)
                  clear hx hv hd h95 hh hw hki HR hp hpt hhd hv2 hd2
                  go_wp2_with (go_at_call 68; refine (value_any _ _).mono ?_; rintro e w' ⟨rfl, rfl⟩)
                  go_ret
                  exact ⟨by rw [HE.out]; rfl, rfl⟩
              · have hhd : headD β (s.data.toList.drop (k + 1)) = false := by
                  rw [List.drop_of_length_le (by rw [ofl]; omega)]
                  rfl
                have hw : runN β p (s.data.toList.drop k) = 0 := by rw [hx, runN, if_neg hd, if_neg (by rw [hhd]; exact fun h => absurd h.2.2 (by decide))]
                have HE := Lib.hid (runF_bad HR.out hw hh)
                clear hx hv hd h95 hh hw hki HR hp hpt hhd
                go_wp2_with (go_at_call 68; refine (value_any _ _).mono ?_; rintro e w' ⟨rfl, rfl⟩)
                go_ret
                exact ⟨by rw [HE.out]; rfl, rfl⟩
        · have b1 : (((s[k].toNat : Nat) : Int) == 95) = false := ne_fact h95
          have hw : runN β p (s.data.toList.drop k) = 0 := by rw [hx, runN, if_neg hd, if_neg (fun h => h95 h.1)]
          have hh : (s.data.toList.drop k).head? ≠ some 95 := by rw [hx, List.head?_cons]; exact fun e => h95 (Option.some.inj e)
          have HE := Lib.hid (runF_stop HR.out hw hh)
          clear hx hv hd h95 hh hw HR
          go_wp2_with (go_at_call 68; refine (value_any _ _).mono ?_; rintro e w' ⟨rfl, rfl⟩)
          go_ret
          exact ⟨by rw [HE.out]; rfl, rfl⟩
    · obtain rfl : k = s.size := by omega
      have hw : runN β p (s.data.toList.drop s.size) = 0 := by rw [drop_all]; cases p <;> rfl
      have HE := Lib.hid (runF_stop HR.out hw (by rw [drop_all]; simp))
      clear hw HR
      go_wp2_with fail
      go_ret
      exact ⟨by rw [HE.out]; rfl, rfl⟩
end Go.Proofs.YthnchejhcmpipaaDoor
