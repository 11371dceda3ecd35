/- Contract of num.Canon. Conditions: at most 2^21 bytes; MaxLen holds a number. -/
import Derived.Test.YthnchejhcmpipaaDoorK
namespace Go.Proofs.YthnchejhcmpipaaDoor
open Go.RowKit

def zeroOr (l : List UInt8) : List UInt8 := if l = [] then [48] else l
/-- Canon of a number of another base. -/
def canonO (s : ByteArray) (x : Lit) : List UInt8 := Lib.toLowerA (s.data.toList.take 2) ++ zeroOr (Lib.trimLeftB (Lib.toLowerA (plainL x.whole.data.toList)) 48) ++ (endB x.big).data.toList
/-- Canon of a number of base ten. -/
def digsT (x : Lit) : List UInt8 := Lib.trimLeftB (plainL x.whole.data.toList ++ plainL x.part.data.toList) 48
def powT (x : Lit) : List UInt8 := zeroOr (Lib.trimLeftB (plainL x.power.data.toList) 48)
def valT (x : Lit) : Int := moreZ (valN (powT x)) (x.minus && decide (powT x ≠ [48])) ((digsT x).length - (Lib.trimRightB (digsT x) 48).length - (plainL x.part.data.toList).length)
def canonT (x : Lit) : List UInt8 :=
  if digsT x = [] then [48] ++ (endB x.big).data.toList
  else Lib.trimRightB (digsT x) 48 ++ [101] ++ ((if valT x < 0 then [45] else []) ++ decL (valT x).natAbs) ++ (endB x.big).data.toList
def canonB (s : ByteArray) : List UInt8 × Int := if (readB s).2 = true then (if (readB s).1.base = 16 then canonO s (readB s).1 else canonT (readB s).1, 0) else ([], 200)
theorem isOth_two {s : ByteArray} (h : isOth s = true) : 2 < s.size ∧ ∀ c ∈ s.data.toList.take 2, c.toNat < 128 := by
  have h2 := isOth_size h
  refine ⟨h2, fun c hc => ?_⟩
  unfold isOth at h
  rw [dif_pos h2] at h
  simp only [Bool.and_eq_true, Bool.or_eq_true, beq_iff_eq, decide_eq_true_eq] at h
  have e : s.data.toList.take 2 = [s[0], s[1]] := by
    have e0 := drop_cons s 0 (by omega)
    have e1 := drop_cons s 1 (by omega)
    rw [List.drop_zero] at e0
    rw [e0, e1]
    rfl
  rw [e] at hc
  rcases List.mem_cons.1 hc with rfl | hc
  · rw [h.1.1]; decide
  · have hc : c = s[1] := by simpa using hc
    subst hc
    have g : ∀ n : Fin 256, ((n.val ||| 32) = 120 ∨ (n.val ||| 32) = 111 ∨ (n.val ||| 32) = 98) → n.val < 128 := by decide +kernel
    exact g ⟨s[1].toNat, s[1].toNat_lt⟩ (by rcases h.1.2 with (h | h) | h <;> simp [h])
theorem mk_of (l : List UInt8) : ∃ A : ByteArray, (⟨l.toArray⟩ : ByteArray) = A ∧ A.data.toList = l := ⟨_, rfl, rfl⟩
theorem ascii_of {l : List UInt8} (h : ∀ c ∈ l, c.toNat < 128) : ∀ (j : Nat) (b : UInt8), l[j]? = some b → b.toNat < 128 := fun _ b hb => h b (List.mem_of_getElem? hb)
theorem plainL_mem {l : List UInt8} {c : UInt8} (h : c ∈ plainL l) : c ∈ l := (List.mem_filter.1 h).1

theorem decL_len10 : ∀ (k n : Nat), n < 10 ^ k → (decL n).length ≤ k + 1 := by
  intro k
  induction k with
  | zero =>
    intro n h
    have : n = 0 := by simpa using h
    subst this
    rw [decL_zero]
    decide
  | succ k ih =>
    intro n h
    by_cases h10 : n < 10
    · rw [decL_small h10]; simp
    · rw [decL, if_neg h10, List.length_append, List.length_singleton]
      have := ih (n / 10) (by rw [Nat.pow_succ] at h; omega)
      omega
theorem canon_pow {l : List UInt8} (h : ∀ c ∈ l, okB 0 c) : canonD (zeroOr (Lib.trimLeftB (plainL l) 48)) := by
  have hd : allDig (Lib.trimLeftB (plainL l) 48) := fun c hc => by
    have h1 := (List.dropWhile_sublist (· == (48 : UInt8))).subset hc
    rcases h c (plainL_mem h1) with h2 | h2
    · exact isD_10 h2
    · have := (List.mem_filter.1 h1).2
      simp [h2] at this
  unfold zeroOr
  split
  · refine ⟨fun c hc => ?_, by simp, .inl rfl⟩
    have : c = 48 := by simpa using hc
    subst this
    decide
  · rename_i hne
    exact ⟨hd, hne, .inr (trim_head _)⟩
set_option maxRecDepth 20000 in
set_option maxHeartbeats 2000000 in
theorem canon_any (s : ByteArray) (w : World) (hs : s.size ≤ 2097152) (hM : MaxAt w) :
    Calls Tryd.prog 8 #[.string s] w fun e w' => e = .returned (.tuple #[.string ⟨(canonB s).1.toArray⟩, .int .i64 (canonB s).2]) ∧ Below w.heap.size w w' := by
  have hR := read_any s w (by omega) hM
  have hok : LitOk s (readB s).1 := scan_ok s
  have hcb : canonB s = if (readB s).2 = true then (if (readB s).1.base = 16 then canonO s (readB s).1 else canonT (readB s).1, 0) else ([], 200) := rfl
  have hoth : (readB s).1.base = 16 → 2 < s.size ∧ ∀ c ∈ s.data.toList.take 2, c.toNat < 128 := fun h => by
    rw [hok.base] at h
    cases ho : isOth s with
    | false => rw [ho] at h; cases h
    | true => exact isOth_two ho
  generalize readB s = q at *
  obtain ⟨x, f⟩ := q
  simp only at hR hok hcb hoth
  have HR := Lib.hid hR
  have HM := Lib.hid hM
  have HCB := Lib.hid hcb
  clear hR hM hcb
  cases f with
  | false =>
    have HF := Lib.hid (HCB.out.trans (if_neg (by decide)))
    clear hok hoth HCB
    have HR2 := Lib.hid HR.out
    obtain ⟨base, whole, point, part, ex, minus, power, big⟩ := x
    unfold Lit.val Lit.cells at HR2
    clear HR
    go_enter Tryd.func8, Tryd.ntmps8
    go_wp2_with (go_at_call 18; refine HR2.out.mono ?_; rintro e w1 ⟨rfl, hb1⟩)
    go_ret2
    exact ⟨by rw [HF.out]; rfl, bel_alloc hb1 _⟩
  | true =>
    have HF := Lib.hid (HCB.out.trans (if_pos rfl))
    clear HCB
    have hw := hok.whole
    have hpt := hok.part
    have hpw := hok.power
    have hsz := hok.sizes
    obtain ⟨base, whole, point, part, ex, minus, power, big⟩ := x
    simp only at hw hpt hpw hsz hoth
    obtain ⟨bb, hwa, _⟩ := hw
    obtain ⟨z1, z2, z3⟩ := hsz
    have HR2 := Lib.hid HR.out
    unfold Lit.val Lit.cells at HR2
    clear HR hok
    by_cases h16 : base = 16
    · subst h16
      obtain ⟨hs2, has⟩ := hoth rfl
      rw [if_pos rfl] at HF
      obtain ⟨A, hA, hAl⟩ := mk_of (plainL whole.data.toList)
      obtain ⟨B, hB, hBl⟩ := mk_of (Lib.toLowerA A.data.toList)
      obtain ⟨D, hD, hDl⟩ := mk_of (Lib.trimLeftB B.data.toList 48)
      obtain ⟨E, hE, hEl⟩ := mk_of (Lib.toLowerA (s.extract 0 2).data.toList)
      have cA := fun W h => plain_any whole W (by omega) h
      have hasc : ∀ c ∈ A.data.toList, c.toNat < 128 := fun c hc => by rw [hAl] at hc; exact okB_ascii (hwa c (plainL_mem hc))
      have hAs : A.size ≤ 2097152 := by rw [← ofl, hAl]; have := plainL_len whole.data.toList; rw [ofl] at this; omega
      have cB := fun W => Tryd.strings_ToLower_ascii A W (by omega) (ascii_of hasc)
      have cD := fun W => Tryd.strings_TrimLeft_one B 48 (by decide) W
      have hse : (s.extract 0 2).data.toList = s.data.toList.take 2 := extract_take s 2
      have cE := fun W => Tryd.strings_ToLower_ascii (s.extract 0 2) W (by rw [ByteArray.size_extract]; omega) (ascii_of (by rw [hse]; exact has))
      rw [hA] at cA
      rw [hB] at cB
      rw [hD] at cD
      rw [hE] at cE
      have HCR := Lib.hid (show canonO s ⟨16, whole, point, part, ex, minus, power, big⟩ = E.data.toList ++ zeroOr D.data.toList ++ (endB big).data.toList by
        unfold canonO; rw [hEl, hDl, hBl, hAl, hse])
      have hDs : D.size ≤ 2097152 := by
        rw [← ofl, hDl, hBl]
        have h1 := (List.dropWhile_sublist (· == (48 : UInt8)) (l := Lib.toLowerA A.data.toList)).length_le
        have h2 : (Lib.toLowerA A.data.toList).length = A.data.toList.length := List.length_map _
        unfold Lib.trimLeftB
        rw [h2, ofl] at h1
        omega
      have hEs : E.size = 2 := by
        rw [← ofl, hEl]
        have h2 : (Lib.toLowerA (s.extract 0 2).data.toList).length = (s.extract 0 2).data.toList.length := List.length_map _
        rw [h2, ofl, ByteArray.size_extract]
        omega
      generalize hS2 : s.extract 0 2 = S2 at *
      have CA := Lib.hid cA
      have CB := Lib.hid cB
      have CD := Lib.hid cD
      have CE := Lib.hid cE
      clear cA cB cD cE hA hB hD hE hAl hBl hDl hEl hasc hse has hwa hpt hpw hoth
      go_enter Tryd.func8, Tryd.ntmps8
      go_upto_region 2 with (go_at_call 18; refine HR2.out.mono ?_; rintro e w1 ⟨rfl, hb1⟩)
      have hL : LitAt (w1.alloc (.cells (Lit.cells ⟨16, whole, point, part, ex, minus, power, big⟩) 40)) w1.heap.size ⟨16, whole, point, part, ex, minus, power, big⟩ := heap_alloc_new _ _
      have hb2 : Below w.heap.size w (w1.alloc (.cells (Lit.cells ⟨16, whole, point, part, ex, minus, power, big⟩) 40)) := bel_alloc hb1 _
      have hM2 := HM.out.below hb2
      unfold Lit.cells at hL hb2 hM2
      simp only at hL hb2 hM2
      generalize w1.alloc _ = w2 at *
      generalize w1.heap.size = b4 at *
      obtain ⟨c0, c1, c2, c3, c4, c5, c6, c7, f0, f1, f2, f3, f4, f5, f6, f7⟩ := LitAt.facts hL
      have HL := Lib.hid hL
      have HM2 := Lib.hid hM2
      clear hL hM2
      go_upto_region 6 with (first | (go_at_call 21; refine (CA.out _ HM2.out).mono ?_; rintro e w3 ⟨rfl, hb3⟩) | (go_at_call 20; refine (CB.out _).mono ?_; rintro e w4p ⟨rfl, hb4⟩) | (go_at_call 19; refine (CD.out _).mono ?_; rintro e w4 ⟨rfl, rfl⟩))
      have hbb := bel_next hb3 hb4
      have HL4 := Lib.hid (HL.out.below hbb HL.out.lt)
      have hbw := bel_next hb2 hbb
      have hen : (endB big).size ≤ 1 := by cases big <;> decide
      cases he : D.toList.isEmpty with
      | true =>
        have HZ := Lib.hid (show zeroOr D.data.toList = [48] by rw [← Lib.toList_data, List.isEmpty_iff.1 he]; rfl)
        go_wp2_with (first | (go_at_call 20; refine (CE.out _).mono ?_; rintro e w5 ⟨rfl, hb5⟩) | (go_at_call 22; refine (end_any _ big _ ((HL4.out.below hb5 HL4.out.lt).cell 7)).mono ?_; rintro e w6 ⟨rfl, rfl⟩))
        go_ret2
        refine ⟨?_, bel_next hbw hb5⟩
        rw [HF.out, HCR.out, HZ.out, ← byteArray_ext (E ++ ⟨#[48]⟩ ++ endB big) (E.data.toList ++ [48] ++ (endB big).data.toList) (by simp)]
        rfl
      | false =>
        have HZ := Lib.hid (show zeroOr D.data.toList = D.data.toList by unfold zeroOr; rw [if_neg]; intro h; rw [Lib.toList_data, h] at he; cases he)
        go_wp2_with (first | (go_at_call 20; refine (CE.out _).mono ?_; rintro e w5 ⟨rfl, hb5⟩) | (go_at_call 22; refine (end_any _ big _ ((HL4.out.below hb5 HL4.out.lt).cell 7)).mono ?_; rintro e w6 ⟨rfl, rfl⟩))
        go_ret2
        refine ⟨?_, bel_next hbw hb5⟩
        rw [HF.out, HCR.out, HZ.out, ← byteArray_ext (E ++ D ++ endB big) (E.data.toList ++ D.data.toList ++ (endB big).data.toList) (by simp)]
        rfl
    · have hb16 : ((base : Int) == 16) = false := by rw [beq_eq_false_iff_ne]; omega
      rw [if_neg h16] at HF
      obtain ⟨P, hP, hPl⟩ := mk_of (plainL part.data.toList)
      obtain ⟨A, hA, hAl⟩ := mk_of (plainL whole.data.toList)
      obtain ⟨D, hD, hDl⟩ := mk_of (Lib.trimLeftB (A ++ P).data.toList 48)
      obtain ⟨K, hK, hKl⟩ := mk_of (Lib.trimRightB D.data.toList 48)
      obtain ⟨Q0, hQ, hQl⟩ := mk_of (plainL power.data.toList)
      obtain ⟨W0, hW, hWl⟩ := mk_of (Lib.trimLeftB Q0.data.toList 48)
      have hdT : digsT ⟨base, whole, point, part, ex, minus, power, big⟩ = D.data.toList := by unfold digsT; rw [hDl, ByteArray.data_append, Array.toList_append, hAl, hPl]
      have hpT : powT ⟨base, whole, point, part, ex, minus, power, big⟩ = zeroOr W0.data.toList := by unfold powT; rw [hWl, hQl]
      have hPs : P.size ≤ 2097152 := by rw [← ofl, hPl]; have := plainL_len part.data.toList; rw [ofl] at this; omega
      have hAs : A.size ≤ 2097152 := by rw [← ofl, hAl]; have := plainL_len whole.data.toList; rw [ofl] at this; omega
      have hQs : Q0.size ≤ 2097152 := by rw [← ofl, hQl]; have := plainL_len power.data.toList; rw [ofl] at this; omega
      have hDs : D.size ≤ 4194304 := by
        rw [← ofl, hDl]
        have h1 := (List.dropWhile_sublist (· == (48 : UInt8)) (l := (A ++ P).data.toList)).length_le
        rw [ofl, ByteArray.size_append] at h1
        unfold Lib.trimLeftB
        omega
      have hKs : K.size ≤ D.size := by
        rw [← ofl, hKl]
        have h1 := (List.dropWhile_sublist (· == (48 : UInt8)) (l := D.data.toList.reverse)).length_le
        rw [List.length_reverse, ofl] at h1
        unfold Lib.trimRightB
        rw [List.length_reverse]
        exact h1
      have hWs : W0.size ≤ 2097152 := by
        rw [← ofl, hWl]
        have h1 := (List.dropWhile_sublist (· == (48 : UInt8)) (l := Q0.data.toList)).length_le
        rw [ofl] at h1
        unfold Lib.trimLeftB
        omega
      obtain ⟨PW, hPW, hPWl⟩ := mk_of (zeroOr W0.data.toList)
      have hcan : canonD PW.data.toList := by rw [hPWl, hWl, hQl]; exact canon_pow hpw
      have hPWs : PW.size ≤ 2097152 := by
        rw [← ofl, hPWl]
        unfold zeroOr
        split
        · decide
        · rw [ofl]; exact hWs
      have hvT : valT ⟨base, whole, point, part, ex, minus, power, big⟩ = moreZ (valN PW.data.toList) (minus && decide (PW.data.toList ≠ [48])) ((D.size : Int) - K.size - P.size) := by
        unfold valT
        rw [hpT, hdT, ← hKl, hPWl, ofl, ofl, ← hPl, ofl]
      have hva : (valT ⟨base, whole, point, part, ex, minus, power, big⟩).natAbs ≤ valN PW.data.toList + 4194304 := by
        rw [hvT]
        unfold moreZ
        split <;> omega
      have hvp : valN PW.data.toList < 10 ^ PW.size := by
        have := valN_lt hcan.1
        rwa [ofl] at this
      have hmo : ∀ (mv : Bool), mv = (minus && decide (PW.data.toList ≠ [48])) → ∀ W : World, Calls Tryd.prog 24 #[.string PW, .bool mv, .int .i64 ((D.size : Int) - K.size - P.size)] W fun e w' => e = .returned (.tuple #[.string ⟨(decL (valT ⟨base, whole, point, part, ex, minus, power, big⟩).natAbs).toArray⟩, .bool (decide (valT ⟨base, whole, point, part, ex, minus, power, big⟩ < 0))]) ∧ Below W.heap.size W w' := fun mv hmv W => by
        subst hmv
        have := more_any PW (minus && decide (PW.data.toList ≠ [48])) ((D.size : Int) - K.size - P.size) W (by omega) (by omega) (by omega) hcan
        unfold moreA at this
        rw [← hvT] at this
        exact this
      have hcT : canonT ⟨base, whole, point, part, ex, minus, power, big⟩ = if D.data.toList = [] then [48] ++ (endB big).data.toList else K.data.toList ++ [101] ++ ((if valT ⟨base, whole, point, part, ex, minus, power, big⟩ < 0 then [45] else []) ++ decL (valT ⟨base, whole, point, part, ex, minus, power, big⟩).natAbs) ++ (endB big).data.toList := by
        unfold canonT
        rw [hdT, ← hKl]
      generalize valT ⟨base, whole, point, part, ex, minus, power, big⟩ = v at *
      obtain ⟨T, hT, hTl⟩ := mk_of (decL v.natAbs)
      rw [hT] at hmo
      rw [← hTl] at hcT
      have hTs : T.size ≤ 20000000 := by
        rw [← ofl, hTl]
        have h1 := decL_len10 (PW.size + 7) v.natAbs (by
          rw [Nat.pow_add]
          have hp1 := pow_pos' PW.size
          generalize 10 ^ PW.size = t at *
          omega)
        omega
      have cP := fun W h => plain_any part W (by omega) h
      have cA := fun W h => plain_any whole W (by omega) h
      have cQ := fun W h => plain_any power W (by omega) h
      have cD := fun W => Tryd.strings_TrimLeft_one (A ++ P) 48 (by decide) W
      have cK := fun W => Tryd.strings_TrimRight_one D 48 (by decide) W (by omega)
      have cW := fun W => Tryd.strings_TrimLeft_one Q0 48 (by decide) W
      rw [hP] at cP
      rw [hA] at cA
      rw [hQ] at cQ
      rw [hD] at cD
      rw [hK] at cK
      rw [hW] at cW
      have CP := Lib.hid cP
      have CA := Lib.hid cA
      have CQ := Lib.hid cQ
      have CD := Lib.hid cD
      have CK := Lib.hid cK
      have CW := Lib.hid cW
      have HMO0 := Lib.hid hmo
      have HCT0 := Lib.hid hcT
      have HPW := Lib.hid hPWl
      clear hva hvp cP cA cQ cD cK cW hP hA hQ hD hK hW hPl hAl hQl hDl hKl hWl hdT hpT hvT hmo hcT hcan hPW hT hTl hPWl hwa hpt hpw hoth h16
      go_enter Tryd.func8, Tryd.ntmps8
      go_upto_region 2 with (go_at_call 18; refine HR2.out.mono ?_; rintro e w1 ⟨rfl, hb1⟩)
      have hL : LitAt (w1.alloc (.cells (Lit.cells ⟨base, whole, point, part, ex, minus, power, big⟩) 40)) w1.heap.size ⟨base, whole, point, part, ex, minus, power, big⟩ := heap_alloc_new _ _
      have hb2 : Below w.heap.size w (w1.alloc (.cells (Lit.cells ⟨base, whole, point, part, ex, minus, power, big⟩) 40)) := bel_alloc hb1 _
      have hM2 := HM.out.below hb2
      unfold Lit.cells at hL hb2 hM2
      simp only at hL hb2 hM2
      generalize w1.alloc _ = w2 at *
      generalize w1.heap.size = b4 at *
      obtain ⟨c0, c1, c2, c3, c4, c5, c6, c7, f0, f1, f2, f3, f4, f5, f6, f7⟩ := LitAt.facts hL
      have HL := Lib.hid hL
      have HM2 := Lib.hid hM2
      clear hL hM2
      go_upto_region 10 with (go_at_call 21; refine (CP.out _ HM2.out).mono ?_; rintro e w3 ⟨rfl, hb3⟩)
      have HL3 := Lib.hid (HL.out.below hb3 HL.out.lt)
      have HM3 := Lib.hid (HM2.out.below hb3)
      clear c0 c1 c2 c3 c4 c5 c6 c7 f0 f1 f2 f3 f4 f5 f6 f7
      obtain ⟨c0, c1, c2, c3, c4, c5, c6, c7, f0, f1, f2, f3, f4, f5, f6, f7⟩ := LitAt.facts HL3.out
      go_upto_region 11 with (first | (go_at_call 21; refine (CA.out _ HM3.out).mono ?_; rintro e w4p ⟨rfl, hb4⟩) | (go_at_call 19; refine (CD.out _).mono ?_; rintro e w4 ⟨rfl, rfl⟩))
      have HL4 := Lib.hid (HL3.out.below hb4 HL3.out.lt)
      have HM4 := Lib.hid (HM3.out.below hb4)
      have hb4w := bel_next (bel_next hb2 hb3) hb4
      have hen : (endB big).size ≤ 1 := by cases big <;> decide
      clear c0 c1 c2 c3 c4 c5 c6 c7 f0 f1 f2 f3 f4 f5 f6 f7
      obtain ⟨c0, c1, c2, c3, c4, c5, c6, c7, f0, f1, f2, f3, f4, f5, f6, f7⟩ := LitAt.facts HL4.out
      cases he : D.toList.isEmpty with
      | true =>
        have HCT := Lib.hid (HCT0.out.trans (if_pos (by rw [← Lib.toList_data]; exact List.isEmpty_iff.1 he)))
        go_wp2_with (go_at_call 22; refine (end_any _ big _ (HL4.out.cell 7)).mono ?_; rintro e w6 ⟨rfl, rfl⟩)
        go_ret2
        refine ⟨?_, hb4w⟩
        rw [HF.out, HCT.out, ← byteArray_ext (⟨#[48]⟩ ++ endB big) ([48] ++ (endB big).data.toList) (by simp)]
        rfl
      | false =>
        have HCT := Lib.hid (HCT0.out.trans (if_neg (by intro h; rw [Lib.toList_data, h] at he; cases he)))
        clear HCT0
        go_upto_region 15 with (first | (go_at_call 23; refine (CK.out _).mono ?_; rintro e w5 ⟨rfl, rfl⟩) | (go_at_call 21; refine (CQ.out _ HM4.out).mono ?_; rintro e w7p ⟨rfl, hb7p⟩) | (go_at_call 19; refine (CW.out _).mono ?_; rintro e w7 ⟨rfl, rfl⟩))
        have hb7 := bel_next hb4w hb7p
        have HL7 := Lib.hid (HL4.out.below hb7p HL4.out.lt)
        clear c0 c1 c2 c3 c4 c5 c6 c7 f0 f1 f2 f3 f4 f5 f6 f7 hb7p HL HL3 HL4 HM HM2 HM3 HM4 CP CA CQ CD CK CW HR2
        obtain ⟨c0, c1, c2, c3, c4, c5, c6, c7, f0, f1, f2, f3, f4, f5, f6, f7⟩ := LitAt.facts HL7.out
        go_upto_if 56 with fail
        go_cut [10] (fun t wx => t = .string PW ∧ wx = w7)
        case first =>
          cases hw0 : W0.toList.isEmpty with
          | true =>
            have HPW2 := Lib.hid (show PW = ⟨#[48]⟩ by
              refine ba_ext ?_
              rw [HPW.out, ← Lib.toList_data, List.isEmpty_iff.1 hw0]
              rfl)
            clear HMO0
            go_wp2_with fail
            go_meet
            exact ⟨by rw [HPW2.out], rfl⟩
          | false =>
            have HPW2 := Lib.hid (show PW = W0 by
              refine ba_ext ?_
              rw [HPW.out]
              unfold zeroOr
              rw [if_neg]
              intro h
              rw [Lib.toList_data, h] at hw0
              cases hw0)
            clear HMO0
            go_wp2_with fail
            go_meet
            exact ⟨by rw [HPW2.out], rfl⟩
        case rest =>
          obtain ⟨rfl, hwc⟩ := hcut
          subst hwc
          cases minus with
          | false =>
            have HMO := Lib.hid (HMO0.out false (rfl))
            clear HMO0
            cases hv : decide (v < 0) with
            | true =>
              rw [hv] at HMO
              have HV := Lib.hid (of_decide_eq_true hv)
              clear hv
              go_wp2_with (first | (go_at_call 24; refine (HMO.out _).mono ?_; rintro e w8 ⟨rfl, hb8⟩) | (go_at_call 22; refine (end_any _ big _ ((HL7.out.below hb8 HL7.out.lt).cell 7)).mono ?_; rintro e w9 ⟨rfl, rfl⟩))
              go_ret2
              refine ⟨?_, bel_next hb7 hb8⟩
              rw [HF.out, HCT.out, if_pos HV.out, ← byteArray_ext (K ++ ⟨#[101]⟩ ++ (⟨#[45]⟩ ++ T) ++ endB big) (K.data.toList ++ [101] ++ ([45] ++ T.data.toList) ++ (endB big).data.toList) (by simp)]
              rfl
            | false =>
              rw [hv] at HMO
              have HV := Lib.hid (of_decide_eq_false hv)
              clear hv
              go_wp2_with (first | (go_at_call 24; refine (HMO.out _).mono ?_; rintro e w8 ⟨rfl, hb8⟩) | (go_at_call 22; refine (end_any _ big _ ((HL7.out.below hb8 HL7.out.lt).cell 7)).mono ?_; rintro e w9 ⟨rfl, rfl⟩))
              go_ret2
              refine ⟨?_, bel_next hb7 hb8⟩
              rw [HF.out, HCT.out, if_neg (show ¬ v < 0 by have := HV.out; omega), List.nil_append, ← byteArray_ext (K ++ ⟨#[101]⟩ ++ T ++ endB big) (K.data.toList ++ [101] ++ T.data.toList ++ (endB big).data.toList) (by simp)]
              rfl
          | true =>
            by_cases hmn : PW.data.toList = [48]
            · have hP48 : PW = ⟨#[48]⟩ := ba_ext hmn
              subst hP48
              have HMO := Lib.hid (HMO0.out false (by simp))
              clear HMO0
              cases hv : decide (v < 0) with
              | true =>
                rw [hv] at HMO
                have HV := Lib.hid (of_decide_eq_true hv)
                clear hv
                go_wp2_with (first | (go_at_call 24; refine (HMO.out _).mono ?_; rintro e w8 ⟨rfl, hb8⟩) | (go_at_call 22; refine (end_any _ big _ ((HL7.out.below hb8 HL7.out.lt).cell 7)).mono ?_; rintro e w9 ⟨rfl, rfl⟩))
                go_ret2
                refine ⟨?_, bel_next hb7 hb8⟩
                rw [HF.out, HCT.out, if_pos HV.out, ← byteArray_ext (K ++ ⟨#[101]⟩ ++ (⟨#[45]⟩ ++ T) ++ endB big) (K.data.toList ++ [101] ++ ([45] ++ T.data.toList) ++ (endB big).data.toList) (by simp)]
                rfl
              | false =>
                rw [hv] at HMO
                have HV := Lib.hid (of_decide_eq_false hv)
                clear hv
                go_wp2_with (first | (go_at_call 24; refine (HMO.out _).mono ?_; rintro e w8 ⟨rfl, hb8⟩) | (go_at_call 22; refine (end_any _ big _ ((HL7.out.below hb8 HL7.out.lt).cell 7)).mono ?_; rintro e w9 ⟨rfl, rfl⟩))
                go_ret2
                refine ⟨?_, bel_next hb7 hb8⟩
                rw [HF.out, HCT.out, if_neg (show ¬ v < 0 by have := HV.out; omega), List.nil_append, ← byteArray_ext (K ++ ⟨#[101]⟩ ++ T ++ endB big) (K.data.toList ++ [101] ++ T.data.toList ++ (endB big).data.toList) (by simp)]
                rfl
            · have hne1 : (PW.toList == [48]) = false := by rw [beq_eq_false_iff_ne, Lib.toList_data]; exact hmn
              have hne2 : (PW.toList != [48]) = true := by rw [bne_iff_ne, Lib.toList_data]; exact hmn
              have hne3 : PW.toList ≠ [48] := by rw [Lib.toList_data]; exact hmn
              have HMO := Lib.hid (HMO0.out true (by simp [hmn]))
              clear HMO0
              cases hv : decide (v < 0) with
              | true =>
                rw [hv] at HMO
                have HV := Lib.hid (of_decide_eq_true hv)
                clear hv
                go_wp2_with (first | (go_at_call 24; refine (HMO.out _).mono ?_; rintro e w8 ⟨rfl, hb8⟩) | (go_at_call 22; refine (end_any _ big _ ((HL7.out.below hb8 HL7.out.lt).cell 7)).mono ?_; rintro e w9 ⟨rfl, rfl⟩))
                go_ret2
                refine ⟨?_, bel_next hb7 hb8⟩
                rw [HF.out, HCT.out, if_pos HV.out, ← byteArray_ext (K ++ ⟨#[101]⟩ ++ (⟨#[45]⟩ ++ T) ++ endB big) (K.data.toList ++ [101] ++ ([45] ++ T.data.toList) ++ (endB big).data.toList) (by simp)]
                rfl
              | false =>
                rw [hv] at HMO
                have HV := Lib.hid (of_decide_eq_false hv)
                clear hv
                go_wp2_with (first | (go_at_call 24; refine (HMO.out _).mono ?_; rintro e w8 ⟨rfl, hb8⟩) | (go_at_call 22; refine (end_any _ big _ ((HL7.out.below hb8 HL7.out.lt).cell 7)).mono ?_; rintro e w9 ⟨rfl, rfl⟩))
                go_ret2
                refine ⟨?_, bel_next hb7 hb8⟩
                rw [HF.out, HCT.out, if_neg (show ¬ v < 0 by have := HV.out; omega), List.nil_append, ← byteArray_ext (K ++ ⟨#[101]⟩ ++ T ++ endB big) (K.data.toList ++ [101] ++ T.data.toList ++ (endB big).data.toList) (by simp)]
                rfl
end Go.Proofs.YthnchejhcmpipaaDoor
