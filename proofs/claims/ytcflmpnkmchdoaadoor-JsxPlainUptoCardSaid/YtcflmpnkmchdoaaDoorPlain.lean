/- JsxPlain: a text without & stands for itself; of two texts joined behind such a one the entities are the second one's; the answer on valid UTF-8 is valid: the law's own function answers true. Conditions: at most 2^20 bytes each; the library's two tables lie as they are laid. -/
import Derived.Test.YtcflmpnkmchdoaaDoorM
import Derived.Test.YtcflmpnkmchdoaaDoorPP
import Derived.Test.YtcflmpnkmchdoaaDoorVal
import Derived.Test.YtcflmpnkmchdoaaDoorW
namespace Go.Proofs.YtcflmpnkmchdoaaDoor
open Go.RowKit

theorem pair_of {s t : List UInt8} (h : ∀ c ∈ s, c ≠ 38) : (∃ a, entities t = .inl a ∧ entities (s ++ t) = .inl (a + s.length)) ∨ (∃ b, entities t = .inr b ∧ entities (s ++ t) = .inr (s ++ b)) := by
  rw [entities_behind t h]
  cases entities t with
  | inl a => exact .inl ⟨a, rfl, rfl⟩
  | inr b => exact .inr ⟨b, rfl, rfl⟩

set_option maxRecDepth 100000 in
set_option maxHeartbeats 2000000 in
theorem jsxPlain_law (s t : ByteArray) (w : World) (hs : s.size ≤ 1048576) (ht : t.size ≤ 1048576) (hT : Lib.Utf8Tabs 0 1 w) :
    Calls Tryd.prog 8 #[.string s, .string t] w fun e w' => e = .returned (.bool true) ∧ Below w.heap.size w w' := by
  have HT := Lib.hid hT
  clear hT
  go_enter Tryd.func8, Tryd.ntmps8
  go_wp2_with (first | (go_at_call 12; refine (awake_any _).mono ?_; rintro e w1 ⟨rfl, hb1⟩))
  go_loop [5] (fun i => ∃ k : Nat, k ≤ s.size ∧ i = .int .i64 k ∧ ∀ j (hj : j < k) (hs : j < s.size), s[j] ≠ 38) (fun i => s.size - (intOf i).toNat)
  case atStart => exact ⟨0, Nat.zero_le _, rfl, fun j hj => absurd hj (Nat.not_lt_zero _)⟩
  case round =>
    obtain ⟨k, hk, rfl, hno⟩ := hrel
    have HN := Lib.hid hno
    clear hno
    by_cases hlt : k < s.size
    · by_cases h38 : s[k] = 38
      · have b1 : (((s[k].toNat : Nat) : Int) == 38) = true := by rw [h38]; rfl
        clear h38
        go_wp2_with fail
        go_ret
        exact ⟨rfl, hb1⟩
      · have b1 : (((s[k].toNat : Nat) : Int) == 38) = false := by
          rw [beq_eq_false_iff_ne]
          exact fun e => h38 (UInt8.toNat.inj (by rw [show s[k].toNat = 38 by omega]; rfl))
        have HN2 := Lib.hid (show ∀ j (hj : j < k + 1) (hs : j < s.size), s[j] ≠ 38 from fun j hj hs => by
          by_cases h : j < k
          · exact HN.out j h hs
          · obtain rfl : j = k := by omega
            exact h38)
        clear h38
        go_wp2_with fail
        go_round
        case rel => exact ⟨k + 1, by omega, by go_num, HN2.out⟩
        case measure => simp [intOf]; omega
    · obtain rfl : k = s.size := by omega
      have hp : ∀ c ∈ s.data.toList, c ≠ 38 := fun c hc => by
        obtain ⟨j, hj, e⟩ := List.mem_iff_getElem.1 hc
        rw [ofl] at hj
        have := HN.out j hj hj
        rw [← e]
        exact this
      have hE1 : ∀ W, Calls Tryd.prog 9 #[.string s] W fun e w' => e = .returned (.tuple #[.string s, .int .i64 0, .int .i64 0]) ∧ Below W.heap.size W w' := fun W => by
        have h := entities_any s W (by omega)
        rw [entities_plain hp] at h
        have e : (⟨s.data.toList.toArray⟩ : ByteArray) = s := byteArray_ext s _ rfl
        unfold entsV at h
        simp only [e] at h
        exact h
      have hst : (s ++ t).data.toList = s.data.toList ++ t.data.toList := by simp
      have HE1 := Lib.hid hE1
      rcases pair_of (t := t.data.toList) hp with ⟨a, h1, h2⟩ | ⟨b, h1, h2⟩
      · have hal : a < 1048577 := by have := ents_inl _ _ _ _ h1; rw [ofl] at this; omega
        have hE2 : ∀ W, Calls Tryd.prog 9 #[.string t] W fun e w' => e = .returned (.tuple #[.string ⟨#[]⟩, .int .i64 a, .int .i64 700]) ∧ Below W.heap.size W w' := fun W => by
          have h := entities_any t W (by omega)
          rw [h1] at h
          exact h
        have hE3 : ∀ W, Calls Tryd.prog 9 #[.string (s ++ t)] W fun e w' => e = .returned (.tuple #[.string ⟨#[]⟩, .int .i64 ((a + s.size : Nat) : Int), .int .i64 700]) ∧ Below W.heap.size W w' := fun W => by
          have h := entities_any (s ++ t) W (by rw [ByteArray.size_append]; omega)
          rw [hst, h2, ofl] at h
          exact h
        have HE2 := Lib.hid hE2
        have HE3 := Lib.hid hE3
        clear hE1 hE2 hE3 h1 h2 hst hp HN
        go_upto_region 9 with (go_at_call 9; refine (HE1.out _).mono ?_; rintro e w2 ⟨rfl, hb2⟩)
        go_upto_region 10 with (go_at_call 9; refine (HE2.out _).mono ?_; rintro e w3 ⟨rfl, hb3⟩)
        go_upto_region 11 with (go_at_call 9; refine (HE3.out _).mono ?_; rintro e w4 ⟨rfl, hb4⟩)
        have hbel : Below w.heap.size w w4 := bel_next (bel_next (bel_next hb1 hb2) hb3) hb4
        have HV := Lib.hid (valid_any t w4 (by omega) (Utf8Tabs_below HT.out hbel))
        go_wp2_with (first | (go_at_call 20; refine HV.out.mono ?_; rintro e w5 ⟨⟨i, rfl⟩, hb5⟩) | (go_at_call 11; refine (num_any _ _).mono ?_; rintro e w' ⟨rfl, rfl⟩))
        go_ret
        exact ⟨rfl, bel_next hbel hb5⟩
      · have hbl : b.length ≤ 4194304 := by have := ents_len _ _ _ _ h1; rw [ofl] at this; omega
        obtain ⟨B, hB⟩ : ∃ B : ByteArray, B.data.toList = b := ⟨⟨b.toArray⟩, rfl⟩
        have hBs : B.size ≤ 4194304 := by rw [← ofl, hB]; exact hbl
        have hE2 : ∀ W, Calls Tryd.prog 9 #[.string t] W fun e w' => e = .returned (.tuple #[.string B, .int .i64 0, .int .i64 0]) ∧ Below W.heap.size W w' := fun W => by
          have h := entities_any t W (by omega)
          rw [h1] at h
          unfold entsV at h
          simp only [byteArray_ext B b hB] at h
          exact h
        have hE3 : ∀ W, Calls Tryd.prog 9 #[.string (s ++ t)] W fun e w' => e = .returned (.tuple #[.string (s ++ B), .int .i64 0, .int .i64 0]) ∧ Below W.heap.size W w' := fun W => by
          have h := entities_any (s ++ t) W (by rw [ByteArray.size_append]; omega)
          rw [hst, h2] at h
          unfold entsV at h
          simp only [byteArray_ext (s ++ B) (s.data.toList ++ b) (by simp [hB])] at h
          exact h
        have hval : Lib.validD t.data.toList = true → Lib.validD B.data.toList = true := fun h => by rw [hB]; exact entities_valid h h1
        have hcode : validC t.data.toList = 100 ∨ (validC t.data.toList = 0 ∧ validC B.data.toList = 0) := by
          cases hv : Lib.validD t.data.toList with
          | false => exact .inl (validC_false hv)
          | true => exact .inr ⟨validC_true hv, validC_true (hval hv)⟩
        have HE2 := Lib.hid hE2
        have HE3 := Lib.hid hE3
        clear hE1 hE2 hE3 h1 h2 hst hp HN hval hB hbl
        go_upto_region 9 with (go_at_call 9; refine (HE1.out _).mono ?_; rintro e w2 ⟨rfl, hb2⟩)
        go_upto_region 10 with (go_at_call 9; refine (HE2.out _).mono ?_; rintro e w3 ⟨rfl, hb3⟩)
        go_upto_region 11 with (go_at_call 9; refine (HE3.out _).mono ?_; rintro e w4 ⟨rfl, hb4⟩)
        have hbel : Below w.heap.size w w4 := bel_next (bel_next (bel_next hb1 hb2) hb3) hb4
        have hv1 := valid_any t w4 (by omega) (Utf8Tabs_below HT.out hbel)
        have hv2 : ∀ w5, Below w4.heap.size w4 w5 → _ := fun w5 hb => valid_any B w5 (by omega) (Utf8Tabs_below HT.out (bel_next hbel hb))
        generalize validC t.data.toList = x at *
        generalize validC B.data.toList = y at *
        have HV := Lib.hid hv1
        have HV2 := Lib.hid hv2
        clear hv1 hv2
        rcases hcode with rfl | ⟨rfl, rfl⟩
        · go_upto_region 12 with (go_at_call 20; refine HV.out.mono ?_; rintro e w5 ⟨⟨i, rfl⟩, hb5⟩)
          go_wp2_with (first | (go_at_call 20; refine (HV2.out _ hb5).mono ?_; rintro e w6 ⟨⟨i2, rfl⟩, hb6⟩) | (go_at_call 11; refine (num_any _ _).mono ?_; rintro e w' ⟨rfl, rfl⟩))
          go_ret
          exact ⟨rfl, bel_next (bel_next hbel hb5) hb6⟩
        · go_upto_region 12 with (go_at_call 20; refine HV.out.mono ?_; rintro e w5 ⟨⟨i, rfl⟩, hb5⟩)
          go_wp2_with (first | (go_at_call 20; refine (HV2.out _ hb5).mono ?_; rintro e w6 ⟨⟨i2, rfl⟩, hb6⟩) | (go_at_call 11; refine (num_any _ _).mono ?_; rintro e w' ⟨rfl, rfl⟩))
          go_ret
          exact ⟨rfl, bel_next (bel_next hbel hb5) hb6⟩
end Go.Proofs.YtcflmpnkmchdoaaDoor
