/- Contract of the reference's Canon: it answers what num.Canon answers. Condition: at most 2^21 bytes. -/
import Derived.Test.YthnchejhcmpipaaDoorRG
import Derived.Test.YthnchejhcmpipaaDoorW
import Derived.Test.YthnchejhcmpipaaDoorL
namespace Go.Proofs.YthnchejhcmpipaaDoor
open Go.RowKit

theorem of_no (s : ByteArray) (w : World) (hs : s.size ≤ 16777216) (h : (readB s).2 = false) :
    Calls Tryd.prog 26 #[.string s] w fun e w' => ∃ P : Lit, e = .returned (.tuple #[P.val, .bool false]) ∧ Below w.heap.size w w' := by
  refine (of_any s w hs).mono ?_
  rintro e w' ⟨P, ok, hR, rfl, hb⟩
  have := hR.ok
  rw [h] at this
  subst this
  exact ⟨P, rfl, hb⟩
theorem of_yes (s : ByteArray) (w : World) (hs : s.size ≤ 16777216) (h : (readB s).2 = true) :
    Calls Tryd.prog 26 #[.string s] w fun e w' => e = .returned (.tuple #[({ (readB s).1 with base := baseOf s } : Lit).val, .bool true]) ∧ Below w.heap.size w w' := by
  refine (of_any s w hs).mono ?_
  rintro e w' ⟨P, ok, hR, rfl, hb⟩
  have := hR.ok
  rw [h] at this
  subst this
  rw [hR.same rfl]
  exact ⟨rfl, hb⟩
/-- Check. -/
theorem check_ref (s : ByteArray) (w : World) (hs : s.size ≤ 16777216) : Calls Tryd.prog 13 #[.string s] w fun e w' => e = .returned (.int .i64 (if (readB s).2 = true then 0 else 200)) ∧ Below w.heap.size w w' := by
  cases h : (readB s).2 with
  | false =>
    have HO := Lib.hid (fun W => of_no s W hs h)
    clear h
    show Calls Tryd.prog 13 #[.string s] w fun e w' => e = .returned (.int .i64 200) ∧ Below w.heap.size w w'
    go_enter Tryd.func13, Tryd.ntmps13
    go_wp2_with (go_at_call 26; refine (HO.out _).mono ?_; rintro e w1 ⟨⟨base, whole, point, part, ex, minus, power, big⟩, rfl, hb1⟩; unfold Lit.val Lit.cells)
    go_ret
    exact ⟨rfl, bel_alloc hb1 _⟩
  | true =>
    have hO := fun W => of_yes s W hs h
    clear h
    generalize (readB s).1 = x at *
    generalize baseOf s = b at *
    obtain ⟨base, whole, point, part, ex, minus, power, big⟩ := x
    unfold Lit.val Lit.cells at hO
    simp only at hO
    have HO := Lib.hid hO
    clear hO
    show Calls Tryd.prog 13 #[.string s] w fun e w' => e = .returned (.int .i64 0) ∧ Below w.heap.size w w'
    go_enter Tryd.func13, Tryd.ntmps13
    go_wp2_with (go_at_call 26; refine (HO.out _).mono ?_; rintro e w1 ⟨rfl, hb1⟩)
    go_ret
    exact ⟨rfl, bel_alloc hb1 _⟩
/-- the base and its mark. -/
theorem base_cases {s : ByteArray} (ho : isOth s = true) : ∃ b, baseOf s = b ∧ ((b = 16 ∧ Lib.toLowerA (s.data.toList.take 2) = [48, 120]) ∨ (b = 8 ∧ Lib.toLowerA (s.data.toList.take 2) = [48, 111]) ∨ (b = 2 ∧ Lib.toLowerA (s.data.toList.take 2) = [48, 98])) := by
  obtain ⟨c1, r, e, hb, h65⟩ := isOth_head ho
  have hl : Lib.toLowerA (s.data.toList.take 2) = [48, Lib.lowerB c1] := by rw [e]; rfl
  have hbo : baseOf s = letNum (c1.toNat ||| 32) := by
    unfold baseOf
    rw [if_pos ho, e]
    rfl
  have g := all_bytes (P := fun c => ((c.toNat ||| 32) = 120 → 65 ≤ c.toNat → Lib.lowerB c = 120) ∧ ((c.toNat ||| 32) = 111 → 65 ≤ c.toNat → Lib.lowerB c = 111) ∧ ((c.toNat ||| 32) = 98 → 65 ≤ c.toNat → Lib.lowerB c = 98)) (by decide +kernel) c1
  rw [hl, hbo]
  rcases hb with h | h | h
  · exact ⟨16, by rw [h]; rfl, .inl ⟨rfl, by rw [g.1 h h65]⟩⟩
  · exact ⟨8, by rw [h]; rfl, .inr (.inl ⟨rfl, by rw [g.2.1 h h65]⟩)⟩
  · exact ⟨2, by rw [h]; rfl, .inr (.inr ⟨rfl, by rw [g.2.2 h h65]⟩)⟩
theorem mk_of_data (l : List UInt8) : ∃ A : ByteArray, mkB l = A ∧ A.data.toList = l := ⟨_, rfl, rfl⟩
set_option maxRecDepth 100000 in
set_option maxHeartbeats 2000000 in
theorem canon_ref_no (s : ByteArray) (w : World) (hs : s.size ≤ 2097152) (h : (readB s).2 = false) :
    Calls Tryd.prog 10 #[.string s] w fun e w' => e = .returned (.tuple #[.string ⟨(canonB s).1.toArray⟩, .int .i64 (canonB s).2]) ∧ Below w.heap.size w w' := by
  have HO := Lib.hid (fun W => of_no s W (by omega) h)
  have HC := Lib.hid (show canonB s = ([], 200) by unfold canonB; rw [h, if_neg (by decide)])
  clear h
  go_enter Tryd.func10, Tryd.ntmps10
  go_wp2_with (go_at_call 26; refine (HO.out _).mono ?_; rintro e w1 ⟨⟨base, whole, point, part, ex, minus, power, big⟩, rfl, hb1⟩; unfold Lit.val Lit.cells)
  go_ret2
  exact ⟨by rw [HC.out]; rfl, bel_alloc hb1 _⟩
set_option maxRecDepth 100000 in
set_option maxHeartbeats 2000000 in
theorem canon_ref_oth (s : ByteArray) (w : World) (hs : s.size ≤ 2097152) (h : (readB s).2 = true) (ho : isOth s = true) :
    Calls Tryd.prog 10 #[.string s] w fun e w' => e = .returned (.tuple #[.string ⟨(canonB s).1.toArray⟩, .int .i64 (canonB s).2]) ∧ Below w.heap.size w w' := by
  have hO := fun W => of_yes s W (by omega) h
  obtain ⟨b, hb, hbm⟩ := base_cases ho
  have hok := scan_ok s
  have hx16 : (readB s).1.base = 16 := by have := hok.base; rw [ho] at this; exact this
  have hws : (readB s).1.whole.size ≤ 2097152 := Nat.le_trans hok.sizes.1 hs
  have hC : canonB s = (canonO s (readB s).1, 0) := by unfold canonB; rw [h, if_pos rfl, if_pos hx16]
  rw [hb] at hO
  generalize readB s = q at *
  obtain ⟨⟨base, whole, point, part, ex, minus, power, big⟩, f⟩ := q
  simp only at hO hws hC
  unfold canonO at hC
  simp only at hC
  clear hok hx16 h hb
  have hpl := fun W => rplain_any whole W (by omega)
  obtain ⟨Q, hQ, hQl⟩ := mk_of (plainL whole.data.toList)
  rw [hQ] at hpl
  rw [← hQl] at hC
  have hQs : Q.size ≤ 2097152 := by
    rw [← ofl, hQl]
    exact Nat.le_trans (plainL_len _) (by rw [ofl]; exact hws)
  have hsm := fun W => small_ref Q W (by omega)
  obtain ⟨L, hL, hLl⟩ := mk_of (Lib.toLowerA Q.data.toList)
  rw [hL] at hsm
  rw [← hLl] at hC
  have hLs : L.size ≤ 2097152 := by
    rw [← ofl, hLl]
    unfold Lib.toLowerA
    rw [List.length_map, ofl]
    exact hQs
  have hah := fun W => ahead_any L W (by omega)
  obtain ⟨A, hA, hAl⟩ := mk_of (Lib.trimLeftB L.data.toList 48)
  rw [hA] at hah
  rw [← hAl] at hC
  have hAs : A.size ≤ 2097152 := by
    rw [← ofl, hAl]
    exact Nat.le_trans (List.dropWhile_sublist _).length_le (by rw [ofl]; exact hLs)
  obtain ⟨Z, hZ, hZl⟩ := mk_of_data (zeroOr A.data.toList)
  rw [← hZl] at hC
  have hZs : Z.size ≤ 2097153 := by
    rw [← ofl, hZl]
    unfold zeroOr
    split
    · decide
    · rw [ofl]; omega
  have hEs : (endB big).size ≤ 1 := by cases big <;> decide
  have HO := Lib.hid hO
  have HPL := Lib.hid hpl
  have HSM := Lib.hid hsm
  have HAH := Lib.hid hah
  have HZ := Lib.hid hZl
  have HC := Lib.hid hC
  clear hO hpl hsm hah hZl hC hQ hQl hL hLl hA hAl hZ
  rcases hbm with ⟨rfl, hm⟩ | ⟨rfl, hm⟩ | ⟨rfl, hm⟩
  · rw [hm] at HC
    clear hm
    unfold Lit.val Lit.cells at HO
    simp only at HO
    go_enter Tryd.func10, Tryd.ntmps10
    go_upto_region 2 with (go_at_call 26; refine (HO.out _).mono ?_; rintro e w1 ⟨rfl, hb1⟩)
    have hP : ParAt (w1.alloc (.cells (Lit.cells ⟨16, whole, point, part, ex, minus, power, big⟩) 49)) w1.heap.size ⟨16, whole, point, part, ex, minus, power, big⟩ := heap_alloc_new _ _
    have hB : Below w.heap.size w (w1.alloc (.cells (Lit.cells ⟨16, whole, point, part, ex, minus, power, big⟩) 49)) := bel_alloc hb1 _
    have e0 : w1.alloc (.cells (Lit.cells ⟨16, whole, point, part, ex, minus, power, big⟩) 49) = w1.alloc (.cells #[.int .i64 16, .string whole, .bool point, .string part, .bool ex, .bool minus, .string power, .bool big] 49) := rfl
    rw [e0] at hP hB
    generalize w1.alloc (.cells #[.int .i64 16, .string whole, .bool point, .string part, .bool ex, .bool minus, .string power, .bool big] 49) = w2 at *
    generalize w1.heap.size = bp at *
    clear e0 hb1 HO
    have HP := Lib.hid hP
    clear hP
    obtain ⟨c0, c1, c2, c3, c4, c5, c6, c7, f0, f1, f2, f3, f4, f5, f6, f7⟩ := ParAt.facts HP.out
    go_upto_if 19 with fail
    go_cut [6] (fun t wx => t = .string (endB big) ∧ wx = w2)
    case first =>
      cases big
      all_goals
        go_wp2_with fail
        go_meet
        exact ⟨rfl, rfl⟩
    case rest =>
      obtain ⟨rfl, hwc⟩ := hcut
      subst hwc
      go_upto_if 29 with (first | (go_at_call 29; refine (HPL.out _).mono ?_; rintro e w3 ⟨rfl, hb3⟩) | (go_at_call 28; refine (HSM.out _).mono ?_; rintro e w4 ⟨rfl, hb4⟩) | (go_at_call 27; refine (HAH.out _).mono ?_; rintro e w5 ⟨rfl, rfl⟩))
      have HP4 := Lib.hid (HP.out.below (bel_next hb3 hb4) HP.out.lt)
      have hB4 := bel_next (bel_next hB hb3) hb4
      clear c0 c1 c2 c3 c4 c5 c6 c7 f0 f1 f2 f3 f4 f5 f6 f7 HP hB HPL HSM HAH
      go_cut [7] (fun t wx => t = .string Z ∧ wx = w4)
      case first =>
        cases he : A.toList.isEmpty with
        | true =>
          have H1 := Lib.hid (show Z = ⟨#[48]⟩ from ba_ext (by rw [HZ.out, ← Lib.toList_data A, List.isEmpty_iff.1 he]; rfl))
          go_wp2_with fail
          go_meet
          exact ⟨by rw [H1.out], rfl⟩
        | false =>
          have H1 := Lib.hid (show Z = A from ba_ext (by rw [HZ.out]; unfold zeroOr; rw [if_neg]; intro h; rw [Lib.toList_data, h] at he; cases he))
          go_wp2_with fail
          go_meet
          exact ⟨by rw [H1.out], rfl⟩
      case rest =>
        obtain ⟨rfl, hwc⟩ := hcut
        subst hwc
        obtain ⟨c0, c1, c2, c3, c4, c5, c6, c7, f0, f1, f2, f3, f4, f5, f6, f7⟩ := ParAt.facts HP4.out
        go_wp2_with fail
        go_ret2
        refine ⟨?_, hB4⟩
        rw [HC.out, ← byteArray_ext (⟨#[48, 120]⟩ ++ Z ++ endB big) ([48, 120] ++ Z.data.toList ++ (endB big).data.toList) (by simp)]
        rfl
  · rw [hm] at HC
    clear hm
    unfold Lit.val Lit.cells at HO
    simp only at HO
    go_enter Tryd.func10, Tryd.ntmps10
    go_upto_region 2 with (go_at_call 26; refine (HO.out _).mono ?_; rintro e w1 ⟨rfl, hb1⟩)
    have hP : ParAt (w1.alloc (.cells (Lit.cells ⟨8, whole, point, part, ex, minus, power, big⟩) 49)) w1.heap.size ⟨8, whole, point, part, ex, minus, power, big⟩ := heap_alloc_new _ _
    have hB : Below w.heap.size w (w1.alloc (.cells (Lit.cells ⟨8, whole, point, part, ex, minus, power, big⟩) 49)) := bel_alloc hb1 _
    have e0 : w1.alloc (.cells (Lit.cells ⟨8, whole, point, part, ex, minus, power, big⟩) 49) = w1.alloc (.cells #[.int .i64 8, .string whole, .bool point, .string part, .bool ex, .bool minus, .string power, .bool big] 49) := rfl
    rw [e0] at hP hB
    generalize w1.alloc (.cells #[.int .i64 8, .string whole, .bool point, .string part, .bool ex, .bool minus, .string power, .bool big] 49) = w2 at *
    generalize w1.heap.size = bp at *
    clear e0 hb1 HO
    have HP := Lib.hid hP
    clear hP
    obtain ⟨c0, c1, c2, c3, c4, c5, c6, c7, f0, f1, f2, f3, f4, f5, f6, f7⟩ := ParAt.facts HP.out
    go_upto_if 19 with fail
    go_cut [6] (fun t wx => t = .string (endB big) ∧ wx = w2)
    case first =>
      cases big
      all_goals
        go_wp2_with fail
        go_meet
        exact ⟨rfl, rfl⟩
    case rest =>
      obtain ⟨rfl, hwc⟩ := hcut
      subst hwc
      go_upto_if 29 with (first | (go_at_call 29; refine (HPL.out _).mono ?_; rintro e w3 ⟨rfl, hb3⟩) | (go_at_call 28; refine (HSM.out _).mono ?_; rintro e w4 ⟨rfl, hb4⟩) | (go_at_call 27; refine (HAH.out _).mono ?_; rintro e w5 ⟨rfl, rfl⟩))
      have HP4 := Lib.hid (HP.out.below (bel_next hb3 hb4) HP.out.lt)
      have hB4 := bel_next (bel_next hB hb3) hb4
      clear c0 c1 c2 c3 c4 c5 c6 c7 f0 f1 f2 f3 f4 f5 f6 f7 HP hB HPL HSM HAH
      go_cut [7] (fun t wx => t = .string Z ∧ wx = w4)
      case first =>
        cases he : A.toList.isEmpty with
        | true =>
          have H1 := Lib.hid (show Z = ⟨#[48]⟩ from ba_ext (by rw [HZ.out, ← Lib.toList_data A, List.isEmpty_iff.1 he]; rfl))
          go_wp2_with fail
          go_meet
          exact ⟨by rw [H1.out], rfl⟩
        | false =>
          have H1 := Lib.hid (show Z = A from ba_ext (by rw [HZ.out]; unfold zeroOr; rw [if_neg]; intro h; rw [Lib.toList_data, h] at he; cases he))
          go_wp2_with fail
          go_meet
          exact ⟨by rw [H1.out], rfl⟩
      case rest =>
        obtain ⟨rfl, hwc⟩ := hcut
        subst hwc
        obtain ⟨c0, c1, c2, c3, c4, c5, c6, c7, f0, f1, f2, f3, f4, f5, f6, f7⟩ := ParAt.facts HP4.out
        go_wp2_with fail
        go_ret2
        refine ⟨?_, hB4⟩
        rw [HC.out, ← byteArray_ext (⟨#[48, 111]⟩ ++ Z ++ endB big) ([48, 111] ++ Z.data.toList ++ (endB big).data.toList) (by simp)]
        rfl
  · rw [hm] at HC
    clear hm
    unfold Lit.val Lit.cells at HO
    simp only at HO
    go_enter Tryd.func10, Tryd.ntmps10
    go_upto_region 2 with (go_at_call 26; refine (HO.out _).mono ?_; rintro e w1 ⟨rfl, hb1⟩)
    have hP : ParAt (w1.alloc (.cells (Lit.cells ⟨2, whole, point, part, ex, minus, power, big⟩) 49)) w1.heap.size ⟨2, whole, point, part, ex, minus, power, big⟩ := heap_alloc_new _ _
    have hB : Below w.heap.size w (w1.alloc (.cells (Lit.cells ⟨2, whole, point, part, ex, minus, power, big⟩) 49)) := bel_alloc hb1 _
    have e0 : w1.alloc (.cells (Lit.cells ⟨2, whole, point, part, ex, minus, power, big⟩) 49) = w1.alloc (.cells #[.int .i64 2, .string whole, .bool point, .string part, .bool ex, .bool minus, .string power, .bool big] 49) := rfl
    rw [e0] at hP hB
    generalize w1.alloc (.cells #[.int .i64 2, .string whole, .bool point, .string part, .bool ex, .bool minus, .string power, .bool big] 49) = w2 at *
    generalize w1.heap.size = bp at *
    clear e0 hb1 HO
    have HP := Lib.hid hP
    clear hP
    obtain ⟨c0, c1, c2, c3, c4, c5, c6, c7, f0, f1, f2, f3, f4, f5, f6, f7⟩ := ParAt.facts HP.out
    go_upto_if 19 with fail
    go_cut [6] (fun t wx => t = .string (endB big) ∧ wx = w2)
    case first =>
      cases big
      all_goals
        go_wp2_with fail
        go_meet
        exact ⟨rfl, rfl⟩
    case rest =>
      obtain ⟨rfl, hwc⟩ := hcut
      subst hwc
      go_upto_if 29 with (first | (go_at_call 29; refine (HPL.out _).mono ?_; rintro e w3 ⟨rfl, hb3⟩) | (go_at_call 28; refine (HSM.out _).mono ?_; rintro e w4 ⟨rfl, hb4⟩) | (go_at_call 27; refine (HAH.out _).mono ?_; rintro e w5 ⟨rfl, rfl⟩))
      have HP4 := Lib.hid (HP.out.below (bel_next hb3 hb4) HP.out.lt)
      have hB4 := bel_next (bel_next hB hb3) hb4
      clear c0 c1 c2 c3 c4 c5 c6 c7 f0 f1 f2 f3 f4 f5 f6 f7 HP hB HPL HSM HAH
      go_cut [7] (fun t wx => t = .string Z ∧ wx = w4)
      case first =>
        cases he : A.toList.isEmpty with
        | true =>
          have H1 := Lib.hid (show Z = ⟨#[48]⟩ from ba_ext (by rw [HZ.out, ← Lib.toList_data A, List.isEmpty_iff.1 he]; rfl))
          go_wp2_with fail
          go_meet
          exact ⟨by rw [H1.out], rfl⟩
        | false =>
          have H1 := Lib.hid (show Z = A from ba_ext (by rw [HZ.out]; unfold zeroOr; rw [if_neg]; intro h; rw [Lib.toList_data, h] at he; cases he))
          go_wp2_with fail
          go_meet
          exact ⟨by rw [H1.out], rfl⟩
      case rest =>
        obtain ⟨rfl, hwc⟩ := hcut
        subst hwc
        obtain ⟨c0, c1, c2, c3, c4, c5, c6, c7, f0, f1, f2, f3, f4, f5, f6, f7⟩ := ParAt.facts HP4.out
        go_wp2_with fail
        go_ret2
        refine ⟨?_, hB4⟩
        rw [HC.out, ← byteArray_ext (⟨#[48, 98]⟩ ++ Z ++ endB big) ([48, 98] ++ Z.data.toList ++ (endB big).data.toList) (by simp)]
        rfl
end Go.Proofs.YthnchejhcmpipaaDoor
