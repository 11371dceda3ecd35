/- JsxStays: what is shown shows itself, with the words of the text: the law's own function answers true. Condition: at most 2^20 bytes. -/
import Derived.Test.YtcflmpnkmchdoaaDoorM
import Derived.Test.YtcflmpnkmchdoaaDoorV
namespace Go.Proofs.YtcflmpnkmchdoaaDoor
open Go.RowKit

theorem bel_next {a b c : World} (h : Below a.heap.size a b) (h' : Below b.heap.size b c) : Below a.heap.size a c := h.trans (h'.mono h.size)
theorem shownL_len (l : List UInt8) : (shownL l).length ≤ l.length + 1 := Nat.le_trans (join_len _) (Nat.le_trans (sumL_outs _ _ _) (sumL_lines l))
theorem wordsGo_len : ∀ (l cur : List UInt8), (wordsGo cur l).length ≤ l.length + 1
  | [], cur => by rw [wordsGo]; split <;> simp
  | c :: l, cur => by
    have h1 := wordsGo_len l []
    have h2 := wordsGo_len l (cur ++ [c])
    rw [wordsGo]
    split
    · split
      · simp only [List.length_cons]; omega
      · simp only [List.length_cons]; omega
    · simp only [List.length_cons]; omega
theorem wordsL_len (l : List UInt8) : (wordsL l).length ≤ l.length + 1 := wordsGo_len l []
/-- has the beginning no line's end? -/
def lineTo (s : ByteArray) (k : Nat) : Bool := (s.data.toList.take k).all fun c => !(c == 10) && !(c == 13)
set_option maxHeartbeats 1000000 in
theorem jsxStays_law (s : ByteArray) (w : World) (hs : s.size ≤ 1048576) : Calls Tryd.prog 5 #[.string s] w fun e w' => e = .returned (.bool true) ∧ Below w.heap.size w w' := by
  have hl1 : (shownL s.data.toList).length ≤ 16777216 := by have := shownL_len s.data.toList; rw [ofl] at this; omega
  go_enter Tryd.func5, Tryd.ntmps5
  go_wp2_with (first | (go_at_call 12; refine (awake_any _).mono ?_; rintro e w1 ⟨rfl, hb1⟩) | (go_at_call 16; refine (shown_any _ (by omega) _).mono ?_; rintro e w2 ⟨rfl, hb2⟩))
  generalize hT : (⟨(shownL s.data.toList).toArray⟩ : ByteArray) = T
  have hTl : T.data.toList = shownL s.data.toList := by rw [← hT]
  have hTs : T.size ≤ 16777216 := by rw [← ofl, hTl]; exact hl1
  have HT := Lib.hid hTl
  clear hT hTl
  have hbel : Below w.heap.size w w2 := hb1.trans (hb2.mono hb1.size)
  clear hb1 hb2
  go_loop [5, 4] (fun i b => ∃ k : Nat, k ≤ s.size ∧ i = .int .i64 k ∧ b = .bool (lineTo s k)) (fun i _ => s.size - (intOf i).toNat)
  case atStart => exact ⟨0, Nat.zero_le _, rfl, rfl⟩
  case round =>
    obtain ⟨k, hk, rfl, rfl⟩ := hrel
    by_cases hlt : k < s.size
    · have hstep : lineTo s (k + 1) = (lineTo s k && (!(s[k] == 10) && !(s[k] == 13))) := by
        unfold lineTo
        rw [List.take_succ_eq_append_getElem (by simpa using hlt), List.all_append]
        simp only [List.all_cons, List.all_nil, Bool.and_true]
        rfl
      have HS := Lib.hid hstep
      clear hstep
      cases hb : lineTo s k with
      | false =>
        rw [hb] at HS
        clear hb
        go_wp2_with fail
        go_round
        case rel => exact ⟨k + 1, by omega, by go_num, by rw [HS.out]; rfl⟩
        case measure => simp [intOf]; omega
      | true =>
        rw [hb] at HS
        clear hb
        have key : ∀ c d : UInt8, ((((c.toNat : Nat) : Int) != ((d.toNat : Nat) : Int))) = !(c == d) := by
          intro c d
          rw [Bool.eq_iff_iff, bne_iff_ne, Bool.not_eq_true', beq_eq_false_iff_ne]
          exact ⟨fun h e => h (by rw [e]), fun h e => h (UInt8.toNat.inj (by omega))⟩
        have k1 := key s[k] 10
        have k2 := key s[k] 13
        cases c1 : s[k] == 10 with
        | true =>
          rw [c1] at HS k1
          have k1' : (((s[k].toNat : Nat) : Int) != 10) = false := k1
          clear k1 k2 key c1
          go_wp2_with fail
          go_round
          case rel => exact ⟨k + 1, by omega, by go_num, by rw [HS.out]; rfl⟩
          case measure => simp [intOf]; omega
        | false =>
          rw [c1] at HS k1
          have k1' : (((s[k].toNat : Nat) : Int) != 10) = true := k1
          cases c2 : s[k] == 13 with
          | true =>
            rw [c2] at HS k2
            have k2' : (((s[k].toNat : Nat) : Int) != 13) = false := k2
            clear k1 k2 key c1 c2
            go_wp2_with fail
            go_round
            case rel => exact ⟨k + 1, by omega, by go_num, by rw [HS.out]; rfl⟩
            case measure => simp [intOf]; omega
          | false =>
            rw [c2] at HS k2
            have k2' : (((s[k].toNat : Nat) : Int) != 13) = true := k2
            clear k1 k2 key c1 c2
            go_wp2_with fail
            go_round
            case rel => exact ⟨k + 1, by omega, by go_num, by rw [HS.out]; rfl⟩
            case measure => simp [intOf]; omega
    · obtain rfl : k = s.size := by omega
      have hS : ∀ W, Calls Tryd.prog 16 #[.string T] W fun e w' => e = .returned (.string T) ∧ Below W.heap.size W w' := fun W => by
        have h := shown_any T hTs W
        rw [HT.out, shown_shown, ← HT.out] at h
        exact h
      have hW1 := fun W => words_any T W hTs
      have hW2 := fun W => words_any s W (by omega)
      rw [HT.out, words_shown] at hW1
      have HS := Lib.hid hS
      have HW1 := Lib.hid hW1
      have HW2 := Lib.hid hW2
      clear hS hW1 hW2
      have hWl : (wordsL s.data.toList).length ≤ 33554432 := by have := wordsL_len s.data.toList; rw [ofl] at this; omega
      have HWl := Lib.hid hWl
      clear hWl
      have heq : lineTo s s.size = true → (T.toList == s.toList) = true := fun h => by
        unfold lineTo at h
        rw [List.take_of_length_le (by rw [ofl]; exact Nat.le_refl _), List.all_eq_true] at h
        have e := shown_one s.data.toList (fun c hc => by
          have := h c hc
          simpa using this)
        rw [Lib.toList_data, Lib.toList_data, HT.out, e]
        simp
      have HQ := Lib.hid heq
      clear heq
      have fin : ∀ (b : Bool), lineTo s s.size = b → (b = true → (T.toList == s.toList) = true) := fun b hb h => HQ.out (hb.trans h)
      cases hb : lineTo s s.size with
      | false =>
        clear hb fin
        go_wp2_with (first | (go_at_call 16; refine (HS.out _).mono ?_; rintro e w3 ⟨rfl, hb3⟩) | (go_at_call 13; refine (HW1.out _).mono ?_; rintro e w4 ⟨v1, rfl, ht1, hb4⟩) | (go_at_call 13; refine (HW2.out _).mono ?_; rintro e w5 ⟨v2, rfl, ht2, hb5⟩) | (go_at_call 15; refine (sameTexts_any _ _ _ _ _ _ _ (ht1.below hb5) ht2 HWl.out HWl.out).mono ?_; rintro e w6 ⟨rfl, hb6⟩; rw [decide_eq_true rfl]))
        go_ret
        exact ⟨rfl, bel_next (bel_next (bel_next (bel_next hbel hb3) hb4) hb5) hb6⟩
      | true =>
        have heq := fin true hb rfl
        clear hb fin
        go_wp2_with (first | (go_at_call 16; refine (HS.out _).mono ?_; rintro e w3 ⟨rfl, hb3⟩) | (go_at_call 13; refine (HW1.out _).mono ?_; rintro e w4 ⟨v1, rfl, ht1, hb4⟩) | (go_at_call 13; refine (HW2.out _).mono ?_; rintro e w5 ⟨v2, rfl, ht2, hb5⟩) | (go_at_call 15; refine (sameTexts_any _ _ _ _ _ _ _ (ht1.below hb5) ht2 HWl.out HWl.out).mono ?_; rintro e w6 ⟨rfl, hb6⟩; rw [decide_eq_true rfl]))
        go_ret
        exact ⟨rfl, bel_next (bel_next (bel_next (bel_next hbel hb3) hb4) hb5) hb6⟩
end Go.Proofs.YtcflmpnkmchdoaaDoor
