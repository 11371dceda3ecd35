/- strings.IndexRune and strings.IndexAny at the two signs that end a line (10 and 13), at every text up to 2^24 bytes, valid UTF-8 or not. -/
import Derived.Test.YtcflmpnkmchdoaaDoorShelf
import Derived.Test.YtcflmpnkmchdoaaDoorRows
import Derived.WalkKit
import Derived.WalkSpells
import Derived.WalkLawsBesides
import Derived.Lib.Hide
import Derived.Lib.DecodeN
import Derived.Laws.RangeAny
import Derived.Deep.QuietTactic
import Derived.BigQuiet
import Derived.Deep.LoopGhost
import Derived.WalkMore
namespace Go.Proofs.YtcflmpnkmchdoaaDoor
open Go.RowKit

theorem bel_drewN {B : Nat} {a w : World} (h : Below B a w) (n : Nat) : Below B a (w.drewN n) := h.trans ⟨rfl, rfl, rfl, Nat.le_refl _, fun _ _ => rfl⟩
theorem get_bang (s : ByteArray) (i : Nat) (h : i < s.size) : s.get! i = s[i] := by have := get_at s i h; simpa using this
/-- a character of more than one byte: its bytes are none below 128. -/
theorem decode_wide (s : ByteArray) (pos : Nat) (h : pos < s.size) (ha : 128 ≤ (s[pos]'h).toNat) :
    1 ≤ (Utf8.decode s pos).2 ∧ pos + (Utf8.decode s pos).2 ≤ s.size ∧ (128 ≤ (Utf8.decode s pos).1 ∧ (Utf8.decode s pos).1 ≤ 1114111 ∧ ((Utf8.decode s pos).1 < 55296 ∨ 57343 < (Utf8.decode s pos).1)) ∧
      ∀ j, j < (Utf8.decode s pos).2 → ∃ hj : pos + j < s.size, 128 ≤ (s[pos + j]'hj).toNat := by
  rw [Lib.decode_at, get_bang s pos h]
  have hb1 := (s.get! (pos + 1)).toNat_lt
  have hb2 := (s.get! (pos + 2)).toNat_lt
  have hb3 := (s.get! (pos + 3)).toNat_lt
  have hb0 := (s[pos]'h).toNat_lt
  have g1 : ∀ h1 : pos + 1 < s.size, s.get! (pos + 1) = s[pos + 1] := get_bang s _
  have g2 : ∀ h1 : pos + 2 < s.size, s.get! (pos + 2) = s[pos + 2] := get_bang s _
  have g3 : ∀ h1 : pos + 3 < s.size, s.get! (pos + 3) = s[pos + 3] := get_bang s _
  have one : (1 ≤ 1 ∧ pos + 1 ≤ s.size ∧ (128 ≤ 65533 ∧ 65533 ≤ 1114111 ∧ (65533 < 55296 ∨ 57343 < 65533)) ∧ ∀ j, j < 1 → ∃ hj : pos + j < s.size, 128 ≤ (s[pos + j]'hj).toNat) := by
    refine ⟨by omega, by omega, by omega, fun j hj => ?_⟩
    obtain rfl : j = 0 := by omega
    exact ⟨h, ha⟩
  have hd : ∀ v n : Nat, 1 ≤ n → n ≤ 4 → pos + n ≤ s.size → (128 ≤ v ∧ v ≤ 1114111 ∧ (v < 55296 ∨ 57343 < v)) → (2 ≤ n → 128 ≤ (s.get! (pos + 1)).toNat) → (3 ≤ n → 128 ≤ (s.get! (pos + 2)).toNat) → (4 ≤ n → 128 ≤ (s.get! (pos + 3)).toNat) →
      (1 ≤ n ∧ pos + n ≤ s.size ∧ (128 ≤ v ∧ v ≤ 1114111 ∧ (v < 55296 ∨ 57343 < v)) ∧ ∀ j, j < n → ∃ hj : pos + j < s.size, 128 ≤ (s[pos + j]'hj).toNat) := by
    intro v n h1 h4 hn hv a1 a2 a3
    refine ⟨h1, hn, hv, fun j hj => ?_⟩
    have hjs : pos + j < s.size := by omega
    refine ⟨hjs, ?_⟩
    have : j = 0 ∨ j = 1 ∨ j = 2 ∨ j = 3 := by omega
    rcases this with rfl | rfl | rfl | rfl
    · exact ha
    · rw [← g1 hjs]; exact a1 (by omega)
    · rw [← g2 hjs]; exact a2 (by omega)
    · rw [← g3 hjs]; exact a3 (by omega)
  clear g1 g2 g3
  generalize (s[pos]'h).toNat = b0 at *
  generalize (s.get! (pos + 1)).toNat = b1 at *
  generalize (s.get! (pos + 2)).toNat = b2 at *
  generalize (s.get! (pos + 3)).toNat = b3 at *
  unfold Lib.decodeN
  split
  · omega
  · split
    · rename_i hc
      split
      · exact hd _ 2 (by omega) (by omega) (by omega) (by omega) (by omega) (by omega) (by omega)
      · exact one
    · split
      · rename_i hc
        split
        · exact hd _ 3 (by omega) (by omega) (by omega) (by omega) (by omega) (by omega) (by omega)
        · exact one
      · split
        · rename_i hc
          split
          · exact hd _ 4 (by omega) (by omega) (by omega) (by omega) (by omega) (by omega) (by omega)
          · exact one
        · exact one

theorem decode_low (s : ByteArray) (pos : Nat) (h : pos < s.size) (ha : (s[pos]'h).toNat < 128) : Utf8.decode s pos = ((s[pos]'h).toNat, 1) := by
  rw [Lib.decode_at, get_bang s pos h, Lib.decodeN, if_pos ha]

set_option maxRecDepth 1000000 in
set_option maxHeartbeats 1000000 in
/-- a character of more than one byte is none of 10, 13. -/
theorem indexRune_wide (r : Nat) (h0 : 128 ≤ r) (h1 : r ≤ 1114111) (h2 : r < 55296 ∨ 57343 < r) (h3 : r ≠ 65533) (w : World) :
    Calls Tryd.prog 56 #[.string ⟨#[10, 13]⟩, .int .i32 r] w fun e w' => e = .returned (.int .i64 (-1)) ∧ Below w.heap.size w w' := by
  have hv := Lib.hid (show Lib.validRune (r : Int) = true by simp [Lib.validRune]; omega)
  have h3' : ((r : Int) == 65533) = false := by rw [beq_eq_false_iff_ne]; omega
  have hva : Utf8.valid (r : Int) = true := by simp [Utf8.valid]; omega
  obtain ⟨hz2, hz4, hb⟩ := encode_facts (r : Int) hva (by omega)
  clear hva
  generalize hrs : Utf8.encode (r : Int) = rs at *
  clear h1 h2 h3
  go_enter Tryd.func56, Tryd.ntmps56
  go_wp2_with (go_at_call 63; refine (Tryd.utf8_ValidRune _ _).mono ?_; rintro e w' ⟨rfl, rfl⟩; rw [hv.out])
  clear hv h3' h0
  go_step3
  by_cases hz : rs.size = 2
  · go_wp2_with fail
    refine wp_loop_rounds 1 ?_
    rw [rounds_succ]
    go_wp2_with fail
    go_step3
    have hb1 : 128 ≤ (rs[1]'(by omega)).toNat := by
      have := hb (by omega)
      simpa [hz] using this
    clear hb
    have hne : ((((⟨#[10, 13]⟩ : ByteArray)[1]'(by decide)).toNat : Int) != (rs[1].toNat : Int)) = true := by
      rw [bne_iff_ne]
      show (13 : Int) ≠ _
      omega
    go_wp2_with fail
    go_quiet (fail)
    go_wp2_with fail
    clear hne
    generalize hwq : w'.drewN _ = wq
    have hbq : Below w'.heap.size w' wq := by rw [← hwq]; exact bel_drewN (Below.refl _ _) _
    clear hwq
    go_quiet ((go_at_call 62; exact Calls.quiet_of_same (Tryd.strings_IndexByte _ _ _)))
    go_wp2_with fail
    rw [Exit.noGoto_ret]
    go_wp2_with fail
    rw [Exit.noGoto_ret]
    go_ret
    exact ⟨rfl, bel_drewN hbq _⟩
  · have hz3 : 3 ≤ rs.size := by omega
    clear hz hb
    go_wp2_with fail
    refine wp_loop_rounds 1 ?_
    rw [rounds_succ]
    go_wp2_with fail
    rw [Exit.noGoto_ret]
    go_ret
    exact ⟨rfl, Below.refl _ _⟩
end Go.Proofs.YtcflmpnkmchdoaaDoor
