/- JsxLines: lines show what stands on them: the law's own function answers true. Condition: the argument's cells hold ints. -/
import Derived.Test.YtcflmpnkmchdoaaDoorM
import Derived.Test.YtcflmpnkmchdoaaDoorY
import Derived.Test.YtcflmpnkmchdoaaDoorW
namespace Go.Proofs.YtcflmpnkmchdoaaDoor
open Go.RowKit

/-- a row of ints, as an argument. -/
def IntsAt (w : World) (ao : Option Addr) (len : Nat) : Prop := ∀ j, j < len → ∃ b off, ao = some ⟨b, off, none⟩ ∧ b < w.heap.size ∧ ∃ z : Int, w.cell? ⟨b, off + j, none⟩ = some (.int .i64 z)
theorem pick_wrap (z : Int) : (IntKind.u64.wrap z).tmod 4 = z % 4 := by
  have e : IntKind.u64.wrap z = z % 18446744073709551616 := rfl
  rw [e, Int.tmod_eq_emod_of_nonneg (by omega)]
  omega
/-- which line a number picks. -/
def pickN (z : Int) : Nat := (z % 4).toNat
def LinesRel (w wr : World) (k : Nat) (s want first : Value) : Prop :=
  ∃ (ks : List Nat) (S T : ByteArray), k = ks.length ∧ s = .string S ∧ S.data.toList = textOf ks ∧ S.size ≤ 8 * k ∧ want = .string T ∧ T.data.toList = Lib.join (wantL ks) [32] ∧ T.size ≤ 8 * k ∧ first = .bool (decide (wantL ks = [])) ∧ Below w.heap.size w wr

theorem below_alloc {a w : World} (h : Below a.heap.size a w) (o : Obj) : Below a.heap.size a (w.alloc o) := Below.alloc h h.size o
theorem lines_step {w wr' : World} {k : Nat} {ks : List Nat} {S T : ByteArray} (HS : Hid (S.data.toList = textOf ks)) (hSs : S.size ≤ 8 * k) (HK : Hid (k = ks.length)) (hTs : T.size ≤ 8 * k) (j : Nat) (item T' : ByteArray) (b : Bool) (hi : item.data.toList = itemL j) (his : item.size ≤ 4)
    (hT : T'.data.toList = Lib.join (wantL (ks ++ [j])) [32]) (hTs' : T'.size ≤ T.size + 5) (hb : b = decide (wantL (ks ++ [j]) = [])) (hbel : Below w.heap.size w wr') :
    Value.int .i64 ((k : Int) + 1) = Value.int .i64 ((k + 1 : Nat) : Int) ∧ LinesRel w wr' (k + 1) (.string (S ++ ⟨#[10]⟩ ++ item ++ ⟨#[13]⟩)) (.string T') (.bool b) := by
  have hS := HS.out
  have hk := HK.out
  refine ⟨by congr, ks ++ [j], _, T', by simp [hk], rfl, ?_, ?_, rfl, hT, by omega, by rw [hb], hbel⟩
  · rw [textOf_snoc, ← hS, ← hi]
    simp
  · simp only [ByteArray.size_append]
    have e1 : (ByteArray.mk #[10]).size = 1 := rfl
    have e2 : (ByteArray.mk #[13]).size = 1 := rfl
    omega
theorem want_first {ks : List Nat} {T : ByteArray} (HT : Hid (T.data.toList = Lib.join (wantL ks) [32])) (HW : Hid (wantL ks = [])) (j : Nat) (it : ByteArray) (hi : it.data.toList = wantI j) (hne : wantI j ≠ []) : (T ++ it).data.toList = Lib.join (wantL (ks ++ [j])) [32] := by
  have h := HT.out
  rw [HW.out] at h
  rw [wantL_snoc, if_neg hne, HW.out, List.nil_append, Lib.join_one, ← hi]
  have : T.data.toList = [] := h
  simp [this]
theorem want_more {ks : List Nat} {T : ByteArray} (HT : Hid (T.data.toList = Lib.join (wantL ks) [32])) (HW : Hid (wantL ks ≠ [])) (j : Nat) (it : ByteArray) (hi : it.data.toList = wantI j) (hne : wantI j ≠ []) : (T ++ ⟨#[32]⟩ ++ it).data.toList = Lib.join (wantL (ks ++ [j])) [32] := by
  rw [wantL_snoc, if_neg hne, join_snoc, if_neg HW.out, ← HT.out, ← hi]
  simp
theorem want_same {ks : List Nat} {T : ByteArray} (HT : Hid (T.data.toList = Lib.join (wantL ks) [32])) (j : Nat) (he : wantI j = []) : T.data.toList = Lib.join (wantL (ks ++ [j])) [32] := by
  rw [wantL_snoc, if_pos he]
  exact HT.out
theorem dec_some {ks : List Nat} (j : Nat) (hne : wantI j ≠ []) : false = decide (wantL (ks ++ [j]) = []) := by
  rw [wantL_snoc, if_neg hne]
  simp
theorem dec_same {ks : List Nat} (j : Nat) (he : wantI j = []) : decide (wantL ks = []) = decide (wantL (ks ++ [j]) = []) := by
  rw [wantL_snoc, if_pos he]

set_option maxHeartbeats 1000000 in
theorem jsxLines_law (ao : Option Addr) (len cap : Nat) (w : World) (hc : IntsAt w ao len) (hl : len ≤ 33554432) : Calls Tryd.prog 7 #[.slice ao len cap] w fun e w' => e = .returned (.bool true) ∧ Below w.heap.size w w' := by
  have HC := Lib.hid hc
  clear hc
  go_enter Tryd.func7, Tryd.ntmps7
  go_wp2_with (first | (go_at_call 12; refine (awake_any _).mono ?_; rintro e w1 ⟨rfl, hb1⟩))
  go_loopw [6, 3, 4, 5] (fun i s want first wr => ∃ k : Nat, k ≤ len ∧ k ≤ 20 ∧ i = .int .i64 k ∧ LinesRel w wr k s want first) (fun i _ _ _ _ => 20 - (intOf i).toNat)
  case atStart => exact ⟨0, Nat.zero_le _, by omega, rfl, [], _, _, rfl, rfl, rfl, by simp [ByteArray.size], rfl, rfl, by simp [ByteArray.size], rfl, hb1⟩
  case round =>
    obtain ⟨k, hk, hk20, rfl, ks, S, T, hkl, rfl, hS, hSs, rfl, hT, hTs, rfl, hbel⟩ := hrel
    have HS := Lib.hid hS
    have HT := Lib.hid hT
    have HK := Lib.hid hkl
    clear hS hT hkl
    by_cases hlt : k < len ∧ k < 20
    · obtain ⟨hlt, hlt20⟩ := hlt
      obtain ⟨b, off, rfl, hb, z, hz⟩ := HC.out k hlt
      rw [← hbel.cell (p := ⟨b, off + k, none⟩) hb] at hz
      go_upto_region 9 with fail
      have hm := pick_wrap z
      have h4 : z % 4 = 0 ∨ z % 4 = 1 ∨ z % 4 = 2 ∨ z % 4 = 3 := by omega
      rcases h4 with h4 | h4 | h4 | h4
      · rw [h4] at hm
        cases hw : decide (wantL ks = []) with
        | true =>
          have HW := Lib.hid (of_decide_eq_true hw)
          clear hw h4 HC
          go_wp2_with fail
          go_roundw
          case rel =>
            refine ⟨k + 1, hlt, by omega, lines_step HS hSs HK hTs 0 _ _ _ rfl (Nat.le_refl _) (want_first HT HW 0 _ rfl (by decide)) (by rw [ByteArray.size_append]; exact Nat.add_le_add_left (by decide) _) (dec_some (ks := ks) 0 (by decide)) ?_⟩
            exact below_alloc (below_alloc hbel _) _
          case measure => simp [intOf]; omega
        | false =>
          have HW := Lib.hid (of_decide_eq_false hw)
          clear hw h4 HC
          go_wp2_with fail
          go_roundw
          case rel =>
            refine ⟨k + 1, hlt, by omega, lines_step HS hSs HK hTs 0 _ _ _ rfl (Nat.le_refl _) (want_more HT HW 0 _ rfl (by decide)) (by rw [ByteArray.size_append, ByteArray.size_append, Nat.add_assoc]; exact Nat.add_le_add_left (by decide) _) (dec_some (ks := ks) 0 (by decide)) ?_⟩
            exact below_alloc (below_alloc hbel _) _
          case measure => simp [intOf]; omega
      · rw [h4] at hm
        cases hw : decide (wantL ks = []) with
        | true =>
          have HW := Lib.hid (of_decide_eq_true hw)
          clear hw h4 HC
          go_wp2_with fail
          go_roundw
          case rel =>
            refine ⟨k + 1, hlt, by omega, lines_step HS hSs HK hTs 1 _ _ _ rfl (Nat.le_refl _) (want_first HT HW 1 _ rfl (by decide)) (by rw [ByteArray.size_append]; exact Nat.add_le_add_left (by decide) _) (dec_some (ks := ks) 1 (by decide)) ?_⟩
            exact below_alloc (below_alloc hbel _) _
          case measure => simp [intOf]; omega
        | false =>
          have HW := Lib.hid (of_decide_eq_false hw)
          clear hw h4 HC
          go_wp2_with fail
          go_roundw
          case rel =>
            refine ⟨k + 1, hlt, by omega, lines_step HS hSs HK hTs 1 _ _ _ rfl (Nat.le_refl _) (want_more HT HW 1 _ rfl (by decide)) (by rw [ByteArray.size_append, ByteArray.size_append, Nat.add_assoc]; exact Nat.add_le_add_left (by decide) _) (dec_some (ks := ks) 1 (by decide)) ?_⟩
            exact below_alloc (below_alloc hbel _) _
          case measure => simp [intOf]; omega
      · rw [h4] at hm
        clear h4 HC
        go_wp2_with fail
        go_roundw
        case rel =>
          refine ⟨k + 1, hlt, by omega, lines_step HS hSs HK hTs 2 _ _ _ rfl (by decide) (want_same HT 2 rfl) (by omega) (dec_same (ks := ks) 2 rfl) ?_⟩
          exact below_alloc hbel _
        case measure => simp [intOf]; omega
      · rw [h4] at hm
        clear h4 HC
        go_wp2_with fail
        go_roundw
        case rel =>
          refine ⟨k + 1, hlt, by omega, lines_step HS hSs HK hTs 3 _ _ _ rfl (by decide) (want_same HT 3 rfl) (by omega) (dec_same (ks := ks) 3 rfl) ?_⟩
          exact below_alloc hbel _
        case measure => simp [intOf]; omega
    · have hend : k = len ∨ (k = 20 ∧ 20 < len) := by omega
      have hS2 : S.size ≤ 16777216 := by omega
      have hsh : ∀ W, Calls Tryd.prog 16 #[.string S] W fun e w' => e = .returned (.string T) ∧ Below W.heap.size W w' := fun W => by
        have h := shown_any S hS2 W
        rw [HS.out, shown_text, ← HT.out] at h
        exact h
      have HSH := Lib.hid hsh
      clear hsh HC
      rcases hend with rfl | ⟨rfl, hl20⟩
      · go_wp2_with (first | (go_at_call 16; refine (HSH.out _).mono ?_; rintro e w2 ⟨rfl, hb2⟩))
        go_ret
        exact ⟨rfl, bel_next hbel hb2⟩
      · go_wp2_with (first | (go_at_call 16; refine (HSH.out _).mono ?_; rintro e w2 ⟨rfl, hb2⟩))
        go_ret
        exact ⟨rfl, bel_next hbel hb2⟩
end Go.Proofs.YtcflmpnkmchdoaaDoor
