/- Contracts of num.digit and num.run. Condition: the base is 0, b, o or x. -/
import Derived.Test.YteejjkfmmhegmaaGreatDoorBase
import Derived.Test.YteejjkfmmhegmaaGreatDoorP
namespace Go.Proofs.YteejjkfmmhegmaaGreatDoor
open Go.RowKit

set_option maxHeartbeats 800000 in
theorem digit_any (c : UInt8) (b : Nat) (w : World) (hb : b < 256) :
    Calls Tryz.prog 151 #[.int .u8 c.toNat, .int .u8 b] w fun e w' => e = .returned (.bool (isD b c)) ∧ w = w' := by
  have ho := or32 c
  have hl := or32_lt c
  have hc := c.toNat_lt
  go_enter Tryz.func151, Tryz.ntmps151
  go_wp2
  all_goals
    go_ret
    refine ⟨ret_bool ?_, rfl⟩
    rw [Bool.eq_iff_iff]
    unfold isD
    repeat' split
    all_goals first
      | omega
      | (simp <;> omega)
/-- does the run go on at place i? -/
def goesOn (b : Nat) (s : ByteArray) (p : Bool) (i : Nat) : Bool := if h : i < s.size then isD b s[i] || (s[i] == 95 && p && headD b (s.data.toList.drop (i + 1))) else false
theorem headD_at (b : Nat) (s : ByteArray) (k : Nat) (h : k < s.size) : headD b (s.data.toList.drop k) = isD b s[k] := by rw [drop_cons s k h]; rfl
theorem headD_end (b : Nat) (s : ByteArray) (k : Nat) (h : s.size ≤ k) : headD b (s.data.toList.drop k) = false := by
  rw [List.drop_of_length_le (by rw [ofl]; exact h)]
  rfl
theorem byteArray_split (s : ByteArray) (k : Nat) : (s.extract 0 k).data.toList = s.data.toList.take k := extract_take s k
/-- what run keeps: k bytes are read, and the byte ahead is a digit (p) or a _ . -/
structure RunR (b : Nat) (s : ByteArray) (k : Nat) (p : Bool) : Prop where
  eq : runN b false s.data.toList = k + runN b p (s.data.toList.drop k)
  at0 : k = 0 → p = false
  prev : ∀ h : k - 1 < s.size, 0 < k → p = !(s[k - 1] == 95)

theorem run_end {b : Nat} {s : ByteArray} {k : Nat} {p : Bool} (h : RunR b s k p) (hw : runN b p (s.data.toList.drop k) = 0) : runN b false s.data.toList = k := by rw [h.eq, hw]; rfl
set_option maxRecDepth 100000 in
set_option maxHeartbeats 2000000 in
theorem run_any (s : ByteArray) (b : Nat) (w : World) (hb : b < 256) (hs : s.size ≤ 16777216) :
    Calls Tryz.prog 124 #[.string s, .int .u8 b] w fun e w' => e = .returned (.tuple #[.string (s.extract 0 (runN b false s.data.toList)), .string (s.extract (runN b false s.data.toList) s.size)]) ∧ Below w.heap.size w w' := by
  go_enter Tryz.func124, Tryz.ntmps124
  go_upto_block 0 with fail
  go_cut [6] (fun i wx => i = .int .i64 (runN b false s.data.toList : Nat) ∧ wx = w)
  case first =>
    go_wp2_with fail
    go_loop [6] (fun i => ∃ (k : Nat) (p : Bool), k ≤ s.size ∧ i = .int .i64 k ∧ RunR b s k p) (fun i => s.size - (intOf i).toNat)
    case atStart => exact ⟨0, false, Nat.zero_le _, rfl, by simp, fun _ => rfl, fun _ h => absurd h (by omega)⟩
    case round =>
      obtain ⟨k, p, hk, rfl, hr⟩ := hrel
      have HR := Lib.hid hr
      clear hr
      by_cases hlt : k < s.size
      · have hx := drop_cons s k hlt
        cases hd : isD b s[k] with
        | true =>
          have HN := Lib.hid (show RunR b s (k + 1) true from ⟨by rw [HR.out.eq, hx, runN, if_pos hd]; omega, fun h => by omega, fun h _ => by
            have : s[k] ≠ 95 := fun e => by rw [e, isD_95] at hd; cases hd
            simp [this]⟩)
          skip
          clear hx
          go_wp2_with (go_at_call 151; refine (digit_any _ b _ hb).mono ?_; rintro e w' ⟨rfl, rfl⟩)
          go_round
          case rel => exact ⟨k + 1, true, by omega, by go_num, HN.out⟩
          case measure => simp [intOf]; omega
        | false =>
          skip
          by_cases h95 : s[k] = 95
          · have b1 : (((s[k].toNat : Nat) : Int) == 95) = true := eq_fact h95
            by_cases hk0 : 0 < k
            · have hk1 : k - 1 < s.size := by omega
              by_cases hp : s[k - 1] = 95
              · have b2 : (((s[k - 1].toNat : Nat) : Int) != 95) = false := by rw [bne_eq_false_iff_eq, hp]; rfl
                have hpf : p = false := by rw [HR.out.prev hk1 hk0, hp]; rfl
                have hw : runN b p (s.data.toList.drop k) = 0 := by rw [hx, runN, if_neg (by rw [hd]; decide), if_neg (by rw [hpf]; exact fun h => absurd h.2.1 (by decide))]
                clear hp hpf h95
                have HE := Lib.hid (run_end HR.out hw)
                clear HR hx
                go_wp2_with (go_at_call 151; refine (digit_any _ b _ hb).mono ?_; rintro e w' ⟨rfl, rfl⟩)
                go_meet
                exact ⟨by rw [HE.out], rfl⟩
              · have b2 : (((s[k - 1].toNat : Nat) : Int) != 95) = true := by rw [bne_iff_ne]; exact fun e => hp (UInt8.toNat.inj (by rw [show s[k - 1].toNat = 95 by omega]; rfl))
                have hpt : p = true := by rw [HR.out.prev hk1 hk0]; simp [hp]
                by_cases hl2 : k + 1 < s.size
                · have hh := headD_at b s (k + 1) hl2
                  cases hd2 : isD b s[k + 1] with
                  | false =>
                    rw [hd2] at hh
                    have hw : runN b p (s.data.toList.drop k) = 0 := by rw [hx, runN, if_neg (by rw [hd]; decide), if_neg (by rw [hh]; exact fun h => absurd h.2.2 (by decide))]
                    clear hp hpt h95 hh
                    have HE := Lib.hid (run_end HR.out hw)
                    clear HR hx
                    go_wp2_with (go_at_call 151; refine (digit_any _ b _ hb).mono ?_; rintro e w' ⟨rfl, rfl⟩)
                    go_meet
                    exact ⟨by rw [HE.out], rfl⟩
                  | true =>
                    rw [hd2] at hh
                    have HN := Lib.hid (show RunR b s (k + 1) false from ⟨by rw [HR.out.eq, hx, runN, if_neg (by rw [hd]; decide), if_pos ⟨h95, hpt, hh⟩]; omega, fun h => by omega, fun h _ => by simp [h95]⟩)
                    clear hp hpt h95 hh HR hx
                    go_wp2_with (go_at_call 151; refine (digit_any _ b _ hb).mono ?_; rintro e w' ⟨rfl, rfl⟩)
                    go_round
                    case rel => exact ⟨k + 1, false, by omega, by go_num, HN.out⟩
                    case measure => simp [intOf]; omega
                · have hh := headD_end b s (k + 1) (by omega)
                  have hw : runN b p (s.data.toList.drop k) = 0 := by rw [hx, runN, if_neg (by rw [hd]; decide), if_neg (by rw [hh]; exact fun h => absurd h.2.2 (by decide))]
                  clear hp hpt h95 hh
                  have HE := Lib.hid (run_end HR.out hw)
                  clear HR hx
                  go_wp2_with (go_at_call 151; refine (digit_any _ b _ hb).mono ?_; rintro e w' ⟨rfl, rfl⟩)
                  go_meet
                  exact ⟨by rw [HE.out], rfl⟩
            · have hpf := HR.out.at0 (by omega)
              have hw : runN b p (s.data.toList.drop k) = 0 := by rw [hx, runN, if_neg (by rw [hd]; decide), if_neg (by rw [hpf]; exact fun h => absurd h.2.1 (by decide))]
              have hk00 : k = 0 := by omega
              subst hk00
              clear hpf h95 hk0
              have HE := Lib.hid (run_end HR.out hw)
              clear HR hx
              go_wp2_with (go_at_call 151; refine (digit_any _ b _ hb).mono ?_; rintro e w' ⟨rfl, rfl⟩)
              go_meet
              exact ⟨by rw [HE.out]; rfl, rfl⟩
          · have b1 : (((s[k].toNat : Nat) : Int) == 95) = false := ne_fact h95
            have hw : runN b p (s.data.toList.drop k) = 0 := by rw [hx, runN, if_neg (by rw [hd]; decide), if_neg (fun h => h95 h.1)]
            clear h95
            have HE := Lib.hid (run_end HR.out hw)
            clear HR hx
            go_wp2_with (go_at_call 151; refine (digit_any _ b _ hb).mono ?_; rintro e w' ⟨rfl, rfl⟩)
            go_meet
            exact ⟨by rw [HE.out], rfl⟩
      · obtain rfl : k = s.size := by omega
        have hw : runN b p (s.data.toList.drop s.size) = 0 := by rw [drop_all]; cases p <;> rfl
        have hx : True := trivial
        have HE := Lib.hid (run_end HR.out hw)
        clear HR hx
        go_wp2_with fail
        go_meet
        exact ⟨by rw [HE.out], rfl⟩
  case rest =>
    obtain ⟨rfl, hwc⟩ := hcut
    subst hwc
    have hle := runN_le b false s.data.toList
    rw [ofl] at hle
    generalize hN : runN b false s.data.toList = n at *
    have HN := Lib.hid hN
    clear hN
    go_upto_region 4 with fail
    go_quiet (fail)
    go_wp2_with fail
    go_ret2
    exact ⟨by rw [HN.out]; rfl, bel_drewN (Below.refl _ _) _⟩
end Go.Proofs.YteejjkfmmhegmaaGreatDoor
