/- NumRuns: digits with _ between any two are the same number, a _ elsewhere is none: the law's own function answers true, whatever the three numbers. Condition: MaxLen holds a number. -/
import Derived.Test.YthnchejhcmpipaaDoorZ
import Derived.Lib.QuoteBits
namespace Go.Proofs.YthnchejhcmpipaaDoor
open Go.RowKit

theorem u64_mod (z : Int) (L : Nat) (h : 0 < L) : ∃ k : Nat, k < L ∧ (IntKind.u64.wrap z).tmod (L : Int) = (k : Int) := by
  have e : IntKind.u64.wrap z = z % 18446744073709551616 := rfl
  have h1 : 0 ≤ z % 18446744073709551616 := Int.emod_nonneg _ (by decide)
  rw [e, Int.tmod_eq_emod_of_nonneg h1]
  have h2 := Int.emod_nonneg (z % 18446744073709551616) (b := (L : Int)) (by omega)
  have h3 := Int.emod_lt_of_pos (z % 18446744073709551616) (b := (L : Int)) (by omega)
  exact ⟨((z % 18446744073709551616) % (L : Int)).toNat, by omega, by omega⟩
theorem and24 (q : Int) : ∃ z : Nat, z ≤ 16777215 ∧ bits BinOp.and IntKind.i64 q 16777215 = (z : Int) := by
  refine ⟨(BitVec.ofInt 64 q &&& BitVec.ofInt 64 16777215).toNat, ?_, ?_⟩
  · rw [BitVec.toNat_and]
    exact Nat.and_le_right
  · show IntKind.i64.wrap ((BitVec.ofInt 64 q &&& BitVec.ofInt 64 16777215).toNat : Int) = _
    refine Lib.wrap_i64_small _ ?_
    rw [BitVec.toNat_and]
    exact Nat.lt_of_le_of_lt Nat.and_le_right (by decide)
/-- what the law's three calls answer. -/
structure RunsMid (S T : ByteArray) : Prop where
  ck : ∀ W, MaxAt W → Calls Tryd.prog 7 #[.string S] W fun e w' => e = .returned (.int .i64 0) ∧ Below W.heap.size W w'
  cn : ∃ C : ByteArray, (∀ W, MaxAt W → Calls Tryd.prog 8 #[.string S] W fun e w' => e = .returned (.tuple #[.string C, .int .i64 0]) ∧ Below W.heap.size W w') ∧ (∀ W, MaxAt W → Calls Tryd.prog 8 #[.string T] W fun e w' => e = .returned (.tuple #[.string C, .int .i64 0]) ∧ Below W.heap.size W w')
def markB (b : Nat) : ByteArray := mkB (markL b)
theorem markL_len (b : Nat) : (markL b).length ≤ 2 := by unfold markL; split; decide; split; decide; split <;> decide
theorem runs_list (M D : ByteArray) (k : Nat) : (M ++ D.extract 0 k ++ ⟨#[95]⟩ ++ D.extract k D.size).data.toList = M.data.toList ++ (D.data.toList.take k ++ 95 :: D.data.toList.drop k) := by
  rw [ByteArray.data_append, ByteArray.data_append, ByteArray.data_append, Array.toList_append, Array.toList_append, Array.toList_append, extract_take, extract_drop]
  simp
theorem runs_calls {b n : Nat} (hb : b = 2 ∨ b = 8 ∨ b = 10 ∨ b = 16) (h0 : 0 < n) (M D : ByteArray) (hM : M.data.toList = markL b) (hD : D.data.toList = digL b n) (hs : D.size ≤ 25) (k : Nat) (h1 : 0 < k) (h2 : k < D.size) : RunsMid (M ++ D.extract 0 k ++ ⟨#[95]⟩ ++ D.extract k D.size) (M ++ D) := by
  have hall : allD (letB b) D.data.toList := by rw [hD]; exact digL_all hb n
  have hhd : D.data.toList.head? ≠ some 48 := by rw [hD]; exact digL_head (by omega) (by omega) n h0
  have hS := runs_list M D k
  have hT : (M ++ D).data.toList = M.data.toList ++ D.data.toList := by rw [ByteArray.data_append, Array.toList_append]
  have n1 : D.data.toList.take k ≠ [] := fun e => by
    have := congrArg List.length e
    rw [List.length_take, ofl, List.length_nil] at this
    omega
  have n2 : D.data.toList.drop k ≠ [] := fun e => by
    have := congrArg List.length e
    rw [List.length_drop, ofl, List.length_nil] at this
    omega
  have hh1 : (D.data.toList.take k).head? ≠ some 48 := by
    cases hl : D.data.toList with
    | nil => rw [hl] at n1; simp at n1
    | cons c t =>
      rw [hl] at hhd
      obtain ⟨j, rfl⟩ : ∃ j, k = j + 1 := ⟨k - 1, by omega⟩
      rw [List.take_succ_cons]
      exact hhd
  have hm := runs_mid hb (d1 := D.data.toList.take k) (d2 := D.data.toList.drop k) (fun c hc => hall c (List.mem_of_mem_take hc)) (fun c hc => hall c (List.mem_of_mem_drop hc)) n1 n2 hh1
  rw [List.take_append_drop] at hm
  rw [hM] at hS hT
  have eS := mkB_of hS
  have eT := mkB_of hT
  have zS := congrArg ByteArray.size eS
  have zT := congrArg ByteArray.size eT
  have hlm := markL_len b
  rw [mkB_size, List.length_append, List.length_append, List.length_cons, List.length_take, List.length_drop, ofl] at zS
  rw [mkB_size, List.length_append, ofl] at zT
  generalize M ++ D.extract 0 k ++ ⟨#[95]⟩ ++ D.extract k D.size = S at *
  generalize M ++ D = T at *
  rw [← eS, ← eT] at hm
  obtain ⟨hc, C, e1, e2⟩ := hm
  refine ⟨fun W h => ?_, ⟨C.toArray⟩, fun W h => ?_, fun W h => ?_⟩
  · have := check_any S W (by omega) h
    rw [hc] at this
    exact this
  · have := canon_any S W (by omega) h
    rw [e1] at this
    exact this
  · have := canon_any T W (by omega) h
    rw [e2] at this
    exact this
theorem runs_edge {b n : Nat} (hb : b = 2 ∨ b = 8 ∨ b = 10 ∨ b = 16) (h0 : 0 < n) (M D : ByteArray) (hM : M.data.toList = markL b) (hD : D.data.toList = digL b n) (hs : D.size ≤ 25) (k : Nat) (h1 : k = 0 ∨ k = D.size) (W : World) (h : MaxAt W) :
    Calls Tryd.prog 7 #[.string (M ++ D.extract 0 k ++ ⟨#[95]⟩ ++ D.extract k D.size)] W fun e w' => e = .returned (.int .i64 200) ∧ Below W.heap.size W w' := by
  have hall : allD (letB b) D.data.toList := by rw [hD]; exact digL_all hb n
  have hhd : D.data.toList.head? ≠ some 48 := by rw [hD]; exact digL_head (by omega) (by omega) n h0
  have hne : D.data.toList ≠ [] := by rw [hD]; exact digL_ne (by omega) h0
  have hS := runs_list M D k
  rw [hM] at hS
  have eS := mkB_of hS
  have zS := congrArg ByteArray.size eS
  have hlm := markL_len b
  rw [mkB_size, List.length_append, List.length_append, List.length_cons, List.length_take, List.length_drop, ofl] at zS
  have hr : (readB (M ++ D.extract 0 k ++ ⟨#[95]⟩ ++ D.extract k D.size)).2 = false := by
    rw [eS]
    rcases h1 with rfl | rfl
    · exact runs_ahead hb D.data.toList
    · rw [List.take_of_length_le (by rw [ofl]; exact Nat.le_refl _), drop_all]
      exact runs_behind hb hall hne hhd
  have := check_any _ W (show (M ++ D.extract 0 k ++ ⟨#[95]⟩ ++ D.extract k D.size).size ≤ 16777216 by omega) h
  rw [hr] at this
  exact this
set_option maxRecDepth 20000 in
set_option maxHeartbeats 1000000 in
/-- the law, where the base is known. -/
theorem runs0 (x y z : Int) (w : World) (hM : MaxAt w) (hz : (IntKind.u64.wrap z).tmod 4 = 0) :
    Calls Tryd.prog 5 #[.int .i64 x, .int .i64 y, .int .i64 z] w fun e w' => e = .returned (.bool true) ∧ Below w.heap.size w w' := by
  obtain ⟨m, hm, hme⟩ := and24 x
  obtain ⟨D, hD, hDl⟩ := mk_of (digL 10 (m + 1))
  have hDs : D.size ≤ 25 := by
    rw [← ofl, hDl]
    exact digL_len (by decide) 25 _ (by have : (2 : Nat) ^ 25 = 33554432 := by decide
                                        omega)
  have hDp : 0 < D.size := by
    rw [← ofl, hDl]
    exact List.length_pos_iff.2 (digL_ne (by decide) (by omega))
  obtain ⟨k, hk, hke'⟩ := u64_mod y (D.size + 1) (by omega)
  have hke : (IntKind.u64.wrap y).tmod ((D.size : Int) + 1) = (k : Int) := hke'
  have cD := fun W => digits_10 (m + 1) W (by omega) (by omega)
  rw [hD] at cD
  have CD := Lib.hid cD
  have HM := Lib.hid hM
  have hmd := fun h1 h2 => runs_calls (b := 10) (n := m + 1) (by omega) (by omega) ⟨#[]⟩ D rfl hDl hDs k h1 h2
  have hed := fun h1 => runs_edge (b := 10) (n := m + 1) (by omega) (by omega) ⟨#[]⟩ D rfl hDl hDs k h1
  clear cD hD hDl hM hke'
  by_cases hkk : k = 0 ∨ k = D.size
  · have CE := Lib.hid (hed hkk)
    clear hed hmd
    go_enter Tryd.func5, Tryd.ntmps5
    go_upto_region 4 with (go_at_call 14; refine (awake_any _ HM.out).mono ?_; rintro e w0 ⟨rfl, hb0⟩)
    have HM1 := Lib.hid (HM.out.below hb0)
    go_upto_region 5 with (go_at_call 15; refine (CD.out _ _ (by omega)).mono ?_; rintro e w1 ⟨rfl, hb1⟩)
    go_upto_region 7 with fail
    have e1 : (0 : Int) ≤ (k : Int) := by omega
    have e2 : (k : Int) ≤ (D.size : Int) := by omega
    go_quiet (fail)
    clear e1 e2
    have hb2 : ∀ o, Below w.heap.size w ((w1.alloc o).drewN nq) := fun o => bel_drewN (bel_alloc (bel_next (bel_alloc hb0 _) hb1) o) nq
    rcases hkk with hkk | hkk
    · have hk0 : ((k : Int) == 0) = true := by rw [beq_iff_eq]; omega
      clear hkk
      go_wp2_with (first | (go_at_call 7; refine (CE.out _ (HM.out.below (hb2 _))).mono ?_; rintro e w3 ⟨rfl, hb3⟩) | (go_at_call 12; refine (num_any _ _).mono ?_; rintro e w' ⟨rfl, rfl⟩))
      go_ret
      exact ⟨rfl, bel_next (hb2 _) hb3⟩
    · have hk0 : ((k : Int) == 0) = false := by rw [beq_eq_false_iff_ne]; omega
      have hk1 : ((k : Int) == (D.size : Int)) = true := by rw [beq_iff_eq]; omega
      clear hkk
      go_wp2_with (first | (go_at_call 7; refine (CE.out _ (HM.out.below (hb2 _))).mono ?_; rintro e w3 ⟨rfl, hb3⟩) | (go_at_call 12; refine (num_any _ _).mono ?_; rintro e w' ⟨rfl, rfl⟩))
      go_ret
      exact ⟨rfl, bel_next (hb2 _) hb3⟩
  · obtain ⟨ck, C, cn, ct⟩ := hmd (by omega) (by omega)
    have CK := Lib.hid ck
    have CN := Lib.hid cn
    have CT := Lib.hid ct
    have hk1 : ((k : Int) == 0) = false := by rw [beq_eq_false_iff_ne]; omega
    have hk2 : ((k : Int) == (D.size : Int)) = false := by rw [beq_eq_false_iff_ne]; omega
    clear hed hmd ck cn ct hkk
    go_enter Tryd.func5, Tryd.ntmps5
    go_upto_region 4 with (go_at_call 14; refine (awake_any _ HM.out).mono ?_; rintro e w0 ⟨rfl, hb0⟩)
    have HM1 := Lib.hid (HM.out.below hb0)
    go_upto_region 5 with (go_at_call 15; refine (CD.out _ _ (by omega)).mono ?_; rintro e w1 ⟨rfl, hb1⟩)
    go_upto_region 7 with fail
    have e1 : (0 : Int) ≤ (k : Int) := by omega
    have e2 : (k : Int) ≤ (D.size : Int) := by omega
    go_quiet (fail)
    clear e1 e2
    have hb2 : ∀ o, Below w.heap.size w ((w1.alloc o).drewN nq) := fun o => bel_drewN (bel_alloc (bel_next (bel_alloc hb0 _) hb1) o) nq
    go_upto_region 11 with (first | (go_at_call 7; refine (CK.out _ (HM.out.below (hb2 _))).mono ?_; rintro e w3 ⟨rfl, hb3⟩))
    have HM3 := Lib.hid ((HM.out.below (hb2 _)).below hb3)
    go_upto_region 12 with (first | (go_at_call 8; refine (CN.out _ HM3.out).mono ?_; rintro e w4 ⟨rfl, hb4⟩))
    have HM4 := Lib.hid (HM3.out.below hb4)
    go_wp2_with (first | (go_at_call 8; refine (CT.out _ HM4.out).mono ?_; rintro e w5 ⟨rfl, hb5⟩) | (go_at_call 12; refine (num_any _ _).mono ?_; rintro e w' ⟨rfl, rfl⟩))
    go_ret
    exact ⟨rfl, bel_next (bel_next (bel_next (hb2 _) hb3) hb4) hb5⟩
set_option maxRecDepth 20000 in
set_option maxHeartbeats 1000000 in
/-- the law, where the base is known. -/
theorem runs1 (x y z : Int) (w : World) (hM : MaxAt w) (hz : (IntKind.u64.wrap z).tmod 4 = 1) :
    Calls Tryd.prog 5 #[.int .i64 x, .int .i64 y, .int .i64 z] w fun e w' => e = .returned (.bool true) ∧ Below w.heap.size w w' := by
  obtain ⟨m, hm, hme⟩ := and24 x
  obtain ⟨D, hD, hDl⟩ := mk_of (digL 16 (m + 1))
  have hDs : D.size ≤ 25 := by
    rw [← ofl, hDl]
    exact digL_len (by decide) 25 _ (by have : (2 : Nat) ^ 25 = 33554432 := by decide
                                        omega)
  have hDp : 0 < D.size := by
    rw [← ofl, hDl]
    exact List.length_pos_iff.2 (digL_ne (by decide) (by omega))
  obtain ⟨k, hk, hke'⟩ := u64_mod y (D.size + 1) (by omega)
  have hke : (IntKind.u64.wrap y).tmod ((D.size : Int) + 1) = (k : Int) := hke'
  have cD := fun W => digits_16 (m + 1) W (by omega) (by omega)
  rw [hD] at cD
  have CD := Lib.hid cD
  have HM := Lib.hid hM
  have hmd := fun h1 h2 => runs_calls (b := 16) (n := m + 1) (by omega) (by omega) ⟨#[48, 120]⟩ D rfl hDl hDs k h1 h2
  have hed := fun h1 => runs_edge (b := 16) (n := m + 1) (by omega) (by omega) ⟨#[48, 120]⟩ D rfl hDl hDs k h1
  clear cD hD hDl hM hke'
  by_cases hkk : k = 0 ∨ k = D.size
  · have CE := Lib.hid (hed hkk)
    clear hed hmd
    go_enter Tryd.func5, Tryd.ntmps5
    go_upto_region 4 with (go_at_call 14; refine (awake_any _ HM.out).mono ?_; rintro e w0 ⟨rfl, hb0⟩)
    have HM1 := Lib.hid (HM.out.below hb0)
    go_upto_region 5 with (go_at_call 15; refine (CD.out _ _ (by omega)).mono ?_; rintro e w1 ⟨rfl, hb1⟩)
    go_upto_region 7 with fail
    have e1 : (0 : Int) ≤ (k : Int) := by omega
    have e2 : (k : Int) ≤ (D.size : Int) := by omega
    go_quiet (fail)
    clear e1 e2
    have hb2 : ∀ o, Below w.heap.size w ((w1.alloc o).drewN nq) := fun o => bel_drewN (bel_alloc (bel_next (bel_alloc hb0 _) hb1) o) nq
    rcases hkk with hkk | hkk
    · have hk0 : ((k : Int) == 0) = true := by rw [beq_iff_eq]; omega
      clear hkk
      go_wp2_with (first | (go_at_call 7; refine (CE.out _ (HM.out.below (hb2 _))).mono ?_; rintro e w3 ⟨rfl, hb3⟩) | (go_at_call 12; refine (num_any _ _).mono ?_; rintro e w' ⟨rfl, rfl⟩))
      go_ret
      exact ⟨rfl, bel_next (hb2 _) hb3⟩
    · have hk0 : ((k : Int) == 0) = false := by rw [beq_eq_false_iff_ne]; omega
      have hk1 : ((k : Int) == (D.size : Int)) = true := by rw [beq_iff_eq]; omega
      clear hkk
      go_wp2_with (first | (go_at_call 7; refine (CE.out _ (HM.out.below (hb2 _))).mono ?_; rintro e w3 ⟨rfl, hb3⟩) | (go_at_call 12; refine (num_any _ _).mono ?_; rintro e w' ⟨rfl, rfl⟩))
      go_ret
      exact ⟨rfl, bel_next (hb2 _) hb3⟩
  · obtain ⟨ck, C, cn, ct⟩ := hmd (by omega) (by omega)
    have CK := Lib.hid ck
    have CN := Lib.hid cn
    have CT := Lib.hid ct
    have hk1 : ((k : Int) == 0) = false := by rw [beq_eq_false_iff_ne]; omega
    have hk2 : ((k : Int) == (D.size : Int)) = false := by rw [beq_eq_false_iff_ne]; omega
    clear hed hmd ck cn ct hkk
    go_enter Tryd.func5, Tryd.ntmps5
    go_upto_region 4 with (go_at_call 14; refine (awake_any _ HM.out).mono ?_; rintro e w0 ⟨rfl, hb0⟩)
    have HM1 := Lib.hid (HM.out.below hb0)
    go_upto_region 5 with (go_at_call 15; refine (CD.out _ _ (by omega)).mono ?_; rintro e w1 ⟨rfl, hb1⟩)
    go_upto_region 7 with fail
    have e1 : (0 : Int) ≤ (k : Int) := by omega
    have e2 : (k : Int) ≤ (D.size : Int) := by omega
    go_quiet (fail)
    clear e1 e2
    have hb2 : ∀ o, Below w.heap.size w ((w1.alloc o).drewN nq) := fun o => bel_drewN (bel_alloc (bel_next (bel_alloc hb0 _) hb1) o) nq
    go_upto_region 11 with (first | (go_at_call 7; refine (CK.out _ (HM.out.below (hb2 _))).mono ?_; rintro e w3 ⟨rfl, hb3⟩))
    have HM3 := Lib.hid ((HM.out.below (hb2 _)).below hb3)
    go_upto_region 12 with (first | (go_at_call 8; refine (CN.out _ HM3.out).mono ?_; rintro e w4 ⟨rfl, hb4⟩))
    have HM4 := Lib.hid (HM3.out.below hb4)
    go_wp2_with (first | (go_at_call 8; refine (CT.out _ HM4.out).mono ?_; rintro e w5 ⟨rfl, hb5⟩) | (go_at_call 12; refine (num_any _ _).mono ?_; rintro e w' ⟨rfl, rfl⟩))
    go_ret
    exact ⟨rfl, bel_next (bel_next (bel_next (hb2 _) hb3) hb4) hb5⟩
set_option maxRecDepth 20000 in
set_option maxHeartbeats 1000000 in
/-- the law, where the base is known. -/
theorem runs2 (x y z : Int) (w : World) (hM : MaxAt w) (hz : (IntKind.u64.wrap z).tmod 4 = 2) :
    Calls Tryd.prog 5 #[.int .i64 x, .int .i64 y, .int .i64 z] w fun e w' => e = .returned (.bool true) ∧ Below w.heap.size w w' := by
  obtain ⟨m, hm, hme⟩ := and24 x
  obtain ⟨D, hD, hDl⟩ := mk_of (digL 8 (m + 1))
  have hDs : D.size ≤ 25 := by
    rw [← ofl, hDl]
    exact digL_len (by decide) 25 _ (by have : (2 : Nat) ^ 25 = 33554432 := by decide
                                        omega)
  have hDp : 0 < D.size := by
    rw [← ofl, hDl]
    exact List.length_pos_iff.2 (digL_ne (by decide) (by omega))
  obtain ⟨k, hk, hke'⟩ := u64_mod y (D.size + 1) (by omega)
  have hke : (IntKind.u64.wrap y).tmod ((D.size : Int) + 1) = (k : Int) := hke'
  have cD := fun W => digits_8 (m + 1) W (by omega) (by omega)
  rw [hD] at cD
  have CD := Lib.hid cD
  have HM := Lib.hid hM
  have hmd := fun h1 h2 => runs_calls (b := 8) (n := m + 1) (by omega) (by omega) ⟨#[48, 79]⟩ D rfl hDl hDs k h1 h2
  have hed := fun h1 => runs_edge (b := 8) (n := m + 1) (by omega) (by omega) ⟨#[48, 79]⟩ D rfl hDl hDs k h1
  clear cD hD hDl hM hke'
  by_cases hkk : k = 0 ∨ k = D.size
  · have CE := Lib.hid (hed hkk)
    clear hed hmd
    go_enter Tryd.func5, Tryd.ntmps5
    go_upto_region 4 with (go_at_call 14; refine (awake_any _ HM.out).mono ?_; rintro e w0 ⟨rfl, hb0⟩)
    have HM1 := Lib.hid (HM.out.below hb0)
    go_upto_region 5 with (go_at_call 15; refine (CD.out _ _ (by omega)).mono ?_; rintro e w1 ⟨rfl, hb1⟩)
    go_upto_region 7 with fail
    have e1 : (0 : Int) ≤ (k : Int) := by omega
    have e2 : (k : Int) ≤ (D.size : Int) := by omega
    go_quiet (fail)
    clear e1 e2
    have hb2 : ∀ o, Below w.heap.size w ((w1.alloc o).drewN nq) := fun o => bel_drewN (bel_alloc (bel_next (bel_alloc hb0 _) hb1) o) nq
    rcases hkk with hkk | hkk
    · have hk0 : ((k : Int) == 0) = true := by rw [beq_iff_eq]; omega
      clear hkk
      go_wp2_with (first | (go_at_call 7; refine (CE.out _ (HM.out.below (hb2 _))).mono ?_; rintro e w3 ⟨rfl, hb3⟩) | (go_at_call 12; refine (num_any _ _).mono ?_; rintro e w' ⟨rfl, rfl⟩))
      go_ret
      exact ⟨rfl, bel_next (hb2 _) hb3⟩
    · have hk0 : ((k : Int) == 0) = false := by rw [beq_eq_false_iff_ne]; omega
      have hk1 : ((k : Int) == (D.size : Int)) = true := by rw [beq_iff_eq]; omega
      clear hkk
      go_wp2_with (first | (go_at_call 7; refine (CE.out _ (HM.out.below (hb2 _))).mono ?_; rintro e w3 ⟨rfl, hb3⟩) | (go_at_call 12; refine (num_any _ _).mono ?_; rintro e w' ⟨rfl, rfl⟩))
      go_ret
      exact ⟨rfl, bel_next (hb2 _) hb3⟩
  · obtain ⟨ck, C, cn, ct⟩ := hmd (by omega) (by omega)
    have CK := Lib.hid ck
    have CN := Lib.hid cn
    have CT := Lib.hid ct
    have hk1 : ((k : Int) == 0) = false := by rw [beq_eq_false_iff_ne]; omega
    have hk2 : ((k : Int) == (D.size : Int)) = false := by rw [beq_eq_false_iff_ne]; omega
    clear hed hmd ck cn ct hkk
    go_enter Tryd.func5, Tryd.ntmps5
    go_upto_region 4 with (go_at_call 14; refine (awake_any _ HM.out).mono ?_; rintro e w0 ⟨rfl, hb0⟩)
    have HM1 := Lib.hid (HM.out.below hb0)
    go_upto_region 5 with (go_at_call 15; refine (CD.out _ _ (by omega)).mono ?_; rintro e w1 ⟨rfl, hb1⟩)
    go_upto_region 7 with fail
    have e1 : (0 : Int) ≤ (k : Int) := by omega
    have e2 : (k : Int) ≤ (D.size : Int) := by omega
    go_quiet (fail)
    clear e1 e2
    have hb2 : ∀ o, Below w.heap.size w ((w1.alloc o).drewN nq) := fun o => bel_drewN (bel_alloc (bel_next (bel_alloc hb0 _) hb1) o) nq
    go_upto_region 11 with (first | (go_at_call 7; refine (CK.out _ (HM.out.below (hb2 _))).mono ?_; rintro e w3 ⟨rfl, hb3⟩))
    have HM3 := Lib.hid ((HM.out.below (hb2 _)).below hb3)
    go_upto_region 12 with (first | (go_at_call 8; refine (CN.out _ HM3.out).mono ?_; rintro e w4 ⟨rfl, hb4⟩))
    have HM4 := Lib.hid (HM3.out.below hb4)
    go_wp2_with (first | (go_at_call 8; refine (CT.out _ HM4.out).mono ?_; rintro e w5 ⟨rfl, hb5⟩) | (go_at_call 12; refine (num_any _ _).mono ?_; rintro e w' ⟨rfl, rfl⟩))
    go_ret
    exact ⟨rfl, bel_next (bel_next (bel_next (hb2 _) hb3) hb4) hb5⟩
set_option maxRecDepth 20000 in
set_option maxHeartbeats 1000000 in
/-- the law, where the base is known. -/
theorem runs3 (x y z : Int) (w : World) (hM : MaxAt w) (hz : (IntKind.u64.wrap z).tmod 4 = 3) :
    Calls Tryd.prog 5 #[.int .i64 x, .int .i64 y, .int .i64 z] w fun e w' => e = .returned (.bool true) ∧ Below w.heap.size w w' := by
  obtain ⟨m, hm, hme⟩ := and24 x
  obtain ⟨D, hD, hDl⟩ := mk_of (digL 2 (m + 1))
  have hDs : D.size ≤ 25 := by
    rw [← ofl, hDl]
    exact digL_len (by decide) 25 _ (by have : (2 : Nat) ^ 25 = 33554432 := by decide
                                        omega)
  have hDp : 0 < D.size := by
    rw [← ofl, hDl]
    exact List.length_pos_iff.2 (digL_ne (by decide) (by omega))
  obtain ⟨k, hk, hke'⟩ := u64_mod y (D.size + 1) (by omega)
  have hke : (IntKind.u64.wrap y).tmod ((D.size : Int) + 1) = (k : Int) := hke'
  have cD := fun W => digits_2 (m + 1) W (by omega) (by omega)
  rw [hD] at cD
  have CD := Lib.hid cD
  have HM := Lib.hid hM
  have hmd := fun h1 h2 => runs_calls (b := 2) (n := m + 1) (by omega) (by omega) ⟨#[48, 98]⟩ D rfl hDl hDs k h1 h2
  have hed := fun h1 => runs_edge (b := 2) (n := m + 1) (by omega) (by omega) ⟨#[48, 98]⟩ D rfl hDl hDs k h1
  clear cD hD hDl hM hke'
  by_cases hkk : k = 0 ∨ k = D.size
  · have CE := Lib.hid (hed hkk)
    clear hed hmd
    go_enter Tryd.func5, Tryd.ntmps5
    go_upto_region 4 with (go_at_call 14; refine (awake_any _ HM.out).mono ?_; rintro e w0 ⟨rfl, hb0⟩)
    have HM1 := Lib.hid (HM.out.below hb0)
    go_upto_region 5 with (go_at_call 15; refine (CD.out _ _ (by omega)).mono ?_; rintro e w1 ⟨rfl, hb1⟩)
    go_upto_region 7 with fail
    have e1 : (0 : Int) ≤ (k : Int) := by omega
    have e2 : (k : Int) ≤ (D.size : Int) := by omega
    go_quiet (fail)
    clear e1 e2
    have hb2 : ∀ o, Below w.heap.size w ((w1.alloc o).drewN nq) := fun o => bel_drewN (bel_alloc (bel_next (bel_alloc hb0 _) hb1) o) nq
    rcases hkk with hkk | hkk
    · have hk0 : ((k : Int) == 0) = true := by rw [beq_iff_eq]; omega
      clear hkk
      go_wp2_with (first | (go_at_call 7; refine (CE.out _ (HM.out.below (hb2 _))).mono ?_; rintro e w3 ⟨rfl, hb3⟩) | (go_at_call 12; refine (num_any _ _).mono ?_; rintro e w' ⟨rfl, rfl⟩))
      go_ret
      exact ⟨rfl, bel_next (hb2 _) hb3⟩
    · have hk0 : ((k : Int) == 0) = false := by rw [beq_eq_false_iff_ne]; omega
      have hk1 : ((k : Int) == (D.size : Int)) = true := by rw [beq_iff_eq]; omega
      clear hkk
      go_wp2_with (first | (go_at_call 7; refine (CE.out _ (HM.out.below (hb2 _))).mono ?_; rintro e w3 ⟨rfl, hb3⟩) | (go_at_call 12; refine (num_any _ _).mono ?_; rintro e w' ⟨rfl, rfl⟩))
      go_ret
      exact ⟨rfl, bel_next (hb2 _) hb3⟩
  · obtain ⟨ck, C, cn, ct⟩ := hmd (by omega) (by omega)
    have CK := Lib.hid ck
    have CN := Lib.hid cn
    have CT := Lib.hid ct
    have hk1 : ((k : Int) == 0) = false := by rw [beq_eq_false_iff_ne]; omega
    have hk2 : ((k : Int) == (D.size : Int)) = false := by rw [beq_eq_false_iff_ne]; omega
    clear hed hmd ck cn ct hkk
    go_enter Tryd.func5, Tryd.ntmps5
    go_upto_region 4 with (go_at_call 14; refine (awake_any _ HM.out).mono ?_; rintro e w0 ⟨rfl, hb0⟩)
    have HM1 := Lib.hid (HM.out.below hb0)
    go_upto_region 5 with (go_at_call 15; refine (CD.out _ _ (by omega)).mono ?_; rintro e w1 ⟨rfl, hb1⟩)
    go_upto_region 7 with fail
    have e1 : (0 : Int) ≤ (k : Int) := by omega
    have e2 : (k : Int) ≤ (D.size : Int) := by omega
    go_quiet (fail)
    clear e1 e2
    have hb2 : ∀ o, Below w.heap.size w ((w1.alloc o).drewN nq) := fun o => bel_drewN (bel_alloc (bel_next (bel_alloc hb0 _) hb1) o) nq
    go_upto_region 11 with (first | (go_at_call 7; refine (CK.out _ (HM.out.below (hb2 _))).mono ?_; rintro e w3 ⟨rfl, hb3⟩))
    have HM3 := Lib.hid ((HM.out.below (hb2 _)).below hb3)
    go_upto_region 12 with (first | (go_at_call 8; refine (CN.out _ HM3.out).mono ?_; rintro e w4 ⟨rfl, hb4⟩))
    have HM4 := Lib.hid (HM3.out.below hb4)
    go_wp2_with (first | (go_at_call 8; refine (CT.out _ HM4.out).mono ?_; rintro e w5 ⟨rfl, hb5⟩) | (go_at_call 12; refine (num_any _ _).mono ?_; rintro e w' ⟨rfl, rfl⟩))
    go_ret
    exact ⟨rfl, bel_next (bel_next (bel_next (hb2 _) hb3) hb4) hb5⟩
/-- the law. -/
theorem runs_law (x y z : Int) (w : World) (hM : MaxAt w) :
    Calls Tryd.prog 5 #[.int .i64 x, .int .i64 y, .int .i64 z] w fun e w' => e = .returned (.bool true) ∧ Below w.heap.size w w' := by
  obtain ⟨i, hi, he⟩ := u64_mod z 4 (by decide)
  have h4 : i = 0 ∨ i = 1 ∨ i = 2 ∨ i = 3 := by omega
  rcases h4 with rfl | rfl | rfl | rfl
  · exact runs0 x y z w hM he
  · exact runs1 x y z w hM he
  · exact runs2 x y z w hM he
  · exact runs3 x y z w hM he
end Go.Proofs.YthnchejhcmpipaaDoor
