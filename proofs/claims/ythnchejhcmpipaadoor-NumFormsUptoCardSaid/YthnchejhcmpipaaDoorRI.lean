/- Contract of the reference's Canon on numbers of base ten. Condition: at most 2^21 bytes. -/
import Derived.Test.YthnchejhcmpipaaDoorRH
import Derived.Deep.RegionHeld3
namespace Go.Proofs.YthnchejhcmpipaaDoor
open Go.RowKit

theorem run_allDig {p : List UInt8} (h : runN 0 false p = p.length) : allDig (Lib.trimLeftB (plainL p) 48) := by
  intro c hc
  have h1 := (List.dropWhile_sublist (· == (48 : UInt8))).subset hc
  rcases run_ok h c (plainL_mem h1) with h2 | h2
  · exact isD_10 h2
  · have := (List.mem_filter.1 h1).2
    subst h2
    simp at this
theorem trimR_zeros (l : List UInt8) : l = Lib.trimRightB l 48 ++ List.replicate (l.length - (Lib.trimRightB l 48).length) 48 := by
  obtain ⟨v, hv, hz⟩ : ∃ v, l = Lib.trimRightB l 48 ++ v ∧ ∀ c ∈ v, c = 48 := by
    refine ⟨(l.reverse.takeWhile (· == 48)).reverse, ?_, ?_⟩
    · unfold Lib.trimRightB
      rw [← List.reverse_append, List.takeWhile_append_dropWhile, List.reverse_reverse]
    · intro c hc
      rw [List.mem_reverse] at hc
      have : ∀ (m : List UInt8), ∀ x ∈ m.takeWhile (· == (48 : UInt8)), x = 48 := by
        intro m
        induction m with
        | nil => intro x hx; cases hx
        | cons a m ih =>
          intro x hx
          rw [List.takeWhile_cons] at hx
          split at hx
          · rename_i ha
            rcases List.mem_cons.1 hx with rfl | hx
            · simpa using ha
            · exact ih x hx
          · cases hx
      exact this _ c hc
  have hl : l.length - (Lib.trimRightB l 48).length = v.length := by
    have := congrArg List.length hv
    rw [List.length_append] at this
    omega
  rw [hl]
  conv => lhs; rw [hv]
  exact congrArg (Lib.trimRightB l 48 ++ ·) (List.eq_replicate_iff.2 ⟨rfl, hz⟩)
theorem trimR_lastB (l : List UInt8) {c : UInt8} (h : (Lib.trimRightB l 48).getLast? = some c) : c ≠ 48 := by
  unfold Lib.trimRightB at h
  rw [List.getLast?_reverse] at h
  have := List.head?_dropWhile_not (· == (48 : UInt8)) l.reverse
  rw [h] at this
  simpa using this
theorem val_eq (w f p : List UInt8) (pt ex minus big : Bool) : valT (tenLit w pt f ex minus p big) = (if minus = true then -((valN (Lib.trimLeftB (plainL p) 48) : Nat) : Int) else ((valN (Lib.trimLeftB (plainL p) 48) : Nat) : Int)) - ((plainL f).length : Nat) + (((Lib.trimLeftB (plainL w ++ plainL f) 48).length - (Lib.trimRightB (Lib.trimLeftB (plainL w ++ plainL f) 48) 48).length : Nat) : Int) := by
  have hle : (Lib.trimRightB (Lib.trimLeftB (plainL w ++ plainL f) 48) 48).length ≤ (Lib.trimLeftB (plainL w ++ plainL f) 48).length := by
    have := congrArg List.length (trimR_zeros (Lib.trimLeftB (plainL w ++ plainL f) 48))
    rw [List.length_append] at this
    omega
  have hd : digsT (tenLit w pt f ex minus p big) = Lib.trimLeftB (plainL w ++ plainL f) 48 := rfl
  have hp : powT (tenLit w pt f ex minus p big) = zeroOr (Lib.trimLeftB (plainL p) 48) := rfl
  have hf : (tenLit w pt f ex minus p big).part.data.toList = f := rfl
  have hm : (tenLit w pt f ex minus p big).minus = minus := rfl
  unfold valT
  rw [hd, hp, hf, hm]
  generalize Lib.trimLeftB (plainL w ++ plainL f) 48 = D at *
  generalize Lib.trimLeftB (plainL p) 48 = Q at *
  unfold moreZ zeroOr
  by_cases hq : Q = []
  · subst hq
    rw [if_pos rfl, show valN [48] = 0 from rfl, show valN [] = 0 from rfl]
    simp
    omega
  · rw [if_neg hq]
    by_cases h48 : Q = [48]
    · subst h48
      rw [show valN [48] = 0 from rfl]
      simp
      omega
    · rw [decide_eq_true h48, Bool.and_true]
      split <;> omega
theorem trimR_self {l : List UInt8} (h : ∀ c, l.getLast? = some c → c ≠ 48) : Lib.trimRightB l 48 = l := by
  unfold Lib.trimRightB
  rcases nil_or_snoc l with rfl | ⟨m, c, rfl⟩
  · rfl
  · have := h c (by simp)
    rw [List.reverse_append, List.reverse_singleton, List.singleton_append, List.dropWhile_cons_of_neg (by simp [this])]
    simp
theorem last_get (T : ByteArray) (h : 0 < T.size) : T.data.toList.getLast? = some (T[T.size - 1]'(by omega)) := by
  rw [List.getLast?_eq_getElem?, ofl, get_data T (T.size - 1) (by omega)]
theorem init_last (T : ByteArray) (h : 0 < T.size) : T.data.toList = (T.extract 0 (T.size - 1)).data.toList ++ [T[T.size - 1]'(by omega)] := by
  rw [extract_take]
  have h2 := List.take_append_drop (T.size - 1) T.data.toList
  rw [drop_cons T (T.size - 1) (by omega), show T.size - 1 + 1 = T.size by omega, drop_all] at h2
  exact h2.symm
set_option maxRecDepth 100000 in
set_option maxHeartbeats 2000000 in
theorem canon_ref_ten (s : ByteArray) (w : World) (hs : s.size ≤ 2097152) (h : (readB s).2 = true) (ho : isOth s = false) :
    Calls Tryd.prog 10 #[.string s] w fun e w' => e = .returned (.tuple #[.string ⟨(canonB s).1.toArray⟩, .int .i64 (canonB s).2]) ∧ Below w.heap.size w w' := by
  have hO := fun W => of_yes s W (by omega) h
  obtain ⟨wl, pt, f, ex, minus, p, big, hT, hR, hlen⟩ := Ten.of ho h
  have hb : baseOf s = 10 := by unfold baseOf; rw [ho, if_neg (by decide)]
  have hC : canonB s = (canonT (tenLit wl pt f ex minus p big), 0) := by
    unfold canonB
    rw [hR, if_pos rfl, if_neg (base10 _ _ _ _ _ _ _)]
  rw [hR, hb] at hO
  unfold tenText at hlen
  rw [List.length_append, List.length_append, List.length_append, expText_len, ptText_len _ _ hT.nopt] at hlen
  have hpl9 : (Lib.trimLeftB (plainL p) 48).length ≤ 9 ∧ allDig (Lib.trimLeftB (plainL p) 48) ∧ p.length ≤ s.size := by
    cases hex : ex with
    | true =>
      have h1 := hT.pow hex
      rw [hex, if_pos rfl] at hlen
      exact ⟨h1.2.2, run_allDig h1.1, by omega⟩
    | false =>
      rw [(hT.noex hex).2]
      exact ⟨by decide, fun c hc => by (cases hc), Nat.zero_le _⟩
  obtain ⟨hp9, hpd, hps⟩ := hpl9
  have hv := val_eq wl f p pt ex minus big
  unfold canonT at hC
  rw [show digsT (tenLit wl pt f ex minus p big) = Lib.trimLeftB (plainL wl ++ plainL f) 48 from rfl] at hC
  rw [hv] at hC
  -- names
  obtain ⟨WL, hW, hWl⟩ := mk_of_data wl
  obtain ⟨FL, hF, hFl⟩ := mk_of_data f
  obtain ⟨PL, hP, hPl⟩ := mk_of_data p
  obtain ⟨QW, hQW, hQWl⟩ := mk_of_data (plainL wl)
  obtain ⟨QF, hQF, hQFl⟩ := mk_of_data (plainL f)
  obtain ⟨QP, hQP, hQPl⟩ := mk_of_data (plainL p)
  obtain ⟨AP, hAP, hAPl⟩ := mk_of_data (Lib.trimLeftB (plainL p) 48)
  obtain ⟨D0, hD0, hD0l⟩ := mk_of_data (Lib.trimLeftB (plainL wl ++ plainL f) 48)
  have zW : WL.size ≤ 2097152 := by rw [← ofl, hWl]; omega
  have zF : FL.size ≤ 2097152 := by rw [← ofl, hFl]; omega
  have zP : PL.size ≤ 2097152 := by rw [← ofl, hPl]; omega
  have zQW : QW.size ≤ 2097152 := by rw [← ofl, hQWl]; exact Nat.le_trans (plainL_len _) (by omega)
  have zQF : QF.size ≤ 2097152 := by rw [← ofl, hQFl]; exact Nat.le_trans (plainL_len _) (by omega)
  have zQP : QP.size ≤ 2097152 := by rw [← ofl, hQPl]; exact Nat.le_trans (plainL_len _) (by omega)
  have zAP : AP.size ≤ 9 := by rw [← ofl, hAPl]; exact hp9
  have cW : ∀ W, Calls Tryd.prog 29 #[.string WL] W fun e w' => e = .returned (.string QW) ∧ Below W.heap.size W w' := fun W => by
    have := rplain_any WL W (by omega)
    rw [hWl] at this
    rw [← hQW]
    exact this
  have cF : ∀ W, Calls Tryd.prog 29 #[.string FL] W fun e w' => e = .returned (.string QF) ∧ Below W.heap.size W w' := fun W => by
    have := rplain_any FL W (by omega)
    rw [hFl] at this
    rw [← hQF]
    exact this
  have cP : ∀ W, Calls Tryd.prog 29 #[.string PL] W fun e w' => e = .returned (.string QP) ∧ Below W.heap.size W w' := fun W => by
    have := rplain_any PL W (by omega)
    rw [hPl] at this
    rw [← hQP]
    exact this
  have cWF : ∀ (W : World) (X Y : ByteArray), (X = WL ∧ Y = QW) ∨ (X = FL ∧ Y = QF) → Calls Tryd.prog 29 #[.string X] W fun e w' => e = .returned (.string Y) ∧ Below W.heap.size W w' := by
    rintro W X Y (⟨rfl, rfl⟩ | ⟨rfl, rfl⟩)
    · exact cW W
    · exact cF W
  have aP : ∀ W, Calls Tryd.prog 27 #[.string QP] W fun e w' => e = .returned (.string AP) ∧ W = w' := fun W => by
    have := ahead_any QP W (by omega)
    rw [hQPl] at this
    rw [← hAP]
    exact this
  have aD : ∀ W, Calls Tryd.prog 27 #[.string (QW ++ QF)] W fun e w' => e = .returned (.string D0) ∧ W = w' := fun W => by
    have := ahead_any (QW ++ QF) W (by rw [ByteArray.size_append]; omega)
    rw [ByteArray.data_append, Array.toList_append, hQWl, hQFl] at this
    rw [← hD0]
    exact this
  have nP : ∀ W, Calls Tryd.prog 30 #[.string AP] W fun e w' => e = .returned (.int .i64 (valN (Lib.trimLeftB (plainL p) 48) : Nat)) ∧ W = w' := fun W => by
    have := number_any AP W zAP (by rw [hAPl]; exact hpd)
    rw [hAPl] at this
    exact this
  have zN : valN (Lib.trimLeftB (plainL p) 48) < 1000000000 := by
    have h1 := valN_lt hpd
    have h2 : (10 : Nat) ^ (Lib.trimLeftB (plainL p) 48).length ≤ 10 ^ 9 := Nat.pow_le_pow_right (by decide) hp9
    have e : (10 : Nat) ^ 9 = 1000000000 := by decide
    omega
  have zD : D0.size ≤ 4194304 := by
    rw [← ofl, hD0l]
    refine Nat.le_trans (List.dropWhile_sublist _).length_le ?_
    rw [List.length_append, ← hQWl, ← hQFl, ofl, ofl]
    omega
  rw [← hD0l, ← hQFl, ofl QF] at hC
  have hhd : D0.data.toList.head? ≠ some 48 := by rw [hD0l]; exact trim_head _
  have HHD := Lib.hid hhd
  clear hhd
  generalize valN (Lib.trimLeftB (plainL p) 48) = vn at *
  have HO := Lib.hid hO
  have HC := Lib.hid hC
  have HWF := Lib.hid cWF
  have HF := Lib.hid cF
  have HPL := Lib.hid cP
  have HAP := Lib.hid aP
  have HAD := Lib.hid aD
  have HN := Lib.hid nP
  have hPP : ({ tenLit wl pt f ex minus p big with base := 10 } : Lit) = ⟨10, WL, pt, FL, ex, minus, PL, big⟩ := by rw [← hW, ← hF, ← hP]; rfl
  rw [hPP] at HO
  unfold Lit.val Lit.cells at HO
  simp only at HO
  clear hO hC cWF cW cF cP aP aD nP hv hpd hp9 hps hlen hPP hW hWl hF hFl hP hPl hQW hQWl hQF hQFl hQP hQPl hAP hAPl hD0 hD0l hT hR hb h ho
  have hEs : (endB big).size ≤ 1 := by cases big <;> decide
  go_enter Tryd.func10, Tryd.ntmps10
  go_upto_region 2 with (go_at_call 26; refine (HO.out _).mono ?_; rintro e w1 ⟨rfl, hb1⟩)
  have hP : ParAt (w1.alloc (.cells (Lit.cells ⟨10, WL, pt, FL, ex, minus, PL, big⟩) 49)) w1.heap.size ⟨10, WL, pt, FL, ex, minus, PL, big⟩ := heap_alloc_new _ _
  have hB : Below w.heap.size w (w1.alloc (.cells (Lit.cells ⟨10, WL, pt, FL, ex, minus, PL, big⟩) 49)) := bel_alloc hb1 _
  have e0 : w1.alloc (.cells (Lit.cells ⟨10, WL, pt, FL, ex, minus, PL, big⟩) 49) = w1.alloc (.cells #[.int .i64 10, .string WL, .bool pt, .string FL, .bool ex, .bool minus, .string PL, .bool big] 49) := rfl
  rw [e0] at hP hB
  generalize w1.alloc (.cells #[.int .i64 10, .string WL, .bool pt, .string FL, .bool ex, .bool minus, .string PL, .bool big] 49) = w2 at *
  generalize w1.heap.size = bp at *
  clear e0 hb1 HO
  have HP := Lib.hid hP
  clear hP
  obtain ⟨c0, c1, c2, c3, c4, c5, c6, c7, f0, f1, f2, f3, f4, f5, f6, f7⟩ := ParAt.facts HP.out
  go_upto_if 19 with fail
  go_cut [6] (fun t wx => t = .string (endB big) ∧ wx = w2)
  case first =>
    cases big
    all_goals
      go_wp2_with fail
      go_meet
      exact ⟨rfl, rfl⟩
  case rest =>
    obtain ⟨rfl, hwc⟩ := hcut
    subst hwc
    go_upto_region 18 with (first | (go_at_call 29; refine (HPL.out _).mono ?_; rintro e w3 ⟨rfl, hb3⟩) | (go_at_call 27; refine (HAP.out _).mono ?_; rintro e w4 ⟨rfl, rfl⟩) | (go_at_call 30; refine (HN.out _).mono ?_; rintro e w5 ⟨rfl, rfl⟩))
    have HP4 := Lib.hid (HP.out.below hb3 HP.out.lt)
    have hB4 := bel_next hB hb3
    clear c0 c1 c2 c3 c4 c5 c6 c7 f0 f1 f2 f3 f4 f5 f6 f7 HP hB HPL HAP HN hb3
    obtain ⟨c0, c1, c2, c3, c4, c5, c6, c7, f0, f1, f2, f3, f4, f5, f6, f7⟩ := ParAt.facts HP4.out
    go_upto_if 47 with fail
    go_cut [9] (fun t wx => t = .int .i64 (if minus = true then -(vn : Int) else (vn : Int)) ∧ wx = w3)
    case first =>
      cases minus
      all_goals
        go_wp2_with fail
        go_meet
        exact ⟨rfl, rfl⟩
    case rest =>
      obtain ⟨rfl, hwc⟩ := hcut
      subst hwc
      obtain ⟨v0, hv0⟩ : ∃ v0 : Int, v0 = if minus = true then -(vn : Int) else (vn : Int) := ⟨_, rfl⟩
      have hv1 : -1000000000 ≤ v0 ∧ v0 ≤ 1000000000 := by rw [hv0]; split <;> omega
      rw [← hv0] at HC ⊢
      clear hv0
      obtain ⟨hv1, hv2⟩ := hv1
      go_upto_region 21 with (go_at_call 29; refine (HF.out _).mono ?_; rintro e w5 ⟨rfl, hb5⟩)
      have HP5 := Lib.hid (HP4.out.below hb5 HP4.out.lt)
      have hB5 := bel_next hB4 hb5
      clear c0 c1 c2 c3 c4 c5 c6 c7 f0 f1 f2 f3 f4 f5 f6 f7 HP4 hB4 HF hb5
      obtain ⟨c0, c1, c2, c3, c4, c5, c6, c7, f0, f1, f2, f3, f4, f5, f6, f7⟩ := ParAt.facts HP5.out
      go_cut [10] from 56 to 63 (fun t wx => t = .string D0 ∧ Below w.heap.size w wx)
      case first =>
        clear HC
        have hBr := hB5.drew
        have HPr := Lib.hid (ParAt.drew HP5.out)
        clear HP5 hB5
        go_region_with (first | (go_at_call 29; refine (HWF.out _ _ _ (by first | exact .inl ⟨rfl, rfl⟩ | exact .inr ⟨rfl, rfl⟩)).mono ?_; rintro e w6 ⟨rfl, hb6⟩; clear c0 c1 c2 c3 c4 c5 c6 c7 f0 f1 f2 f3 f4 f5 f6 f7; replace HPr := Lib.hid (HPr.out.below hb6 HPr.out.lt); replace hBr := bel_next hBr hb6; clear hb6; obtain ⟨c0, c1, c2, c3, c4, c5, c6, c7, f0, f1, f2, f3, f4, f5, f6, f7⟩ := ParAt.facts HPr.out) | (go_at_call 27; refine (HAD.out _).mono ?_; rintro e w7 ⟨rfl, rfl⟩))
        all_goals go_wp2_with fail
        all_goals go_meet
        all_goals exact ⟨rfl, hBr⟩
      case rest =>
        obtain ⟨rfl, hB6⟩ := hcut
        obtain ⟨K, hK, hKl⟩ := mk_of_data (Lib.trimRightB D0.data.toList 48)
        have hz0 := trimR_zeros D0.data.toList
        have hself := fun (T : ByteArray) (j : Nat) (hT : T.data.toList ++ List.replicate j 48 = D0.data.toList) (hl : ∀ c, T.data.toList.getLast? = some c → c ≠ 48) => show T = K from ba_ext (by rw [hKl, ← hT, trimRight_append, trimR_self hl])
        rw [← hKl, ofl, ofl] at hz0
        rw [← hKl, ofl, ofl] at HC
        have hDe : D0.data.toList = [] ↔ K.data.toList = [] := by
          constructor
          · intro e
            rw [e] at hz0
            exact (List.append_eq_nil_iff.1 hz0.symm).1
          · intro e
            rw [e, List.nil_append] at hz0
            have h1 := HHD.out
            cases hm : D0.size - K.size with
            | zero => rw [hz0, hm]; rfl
            | succ m => rw [hz0, hm] at h1; exact absurd rfl h1
        have hC1 : K.data.toList = [] → canonB s = ([48] ++ (endB big).data.toList, 0) := fun e => HC.out.trans (by rw [if_pos (hDe.2 e)]; rfl)
        have hC2 : ∀ j : Nat, K.size + j = D0.size → K.data.toList ≠ [] → canonB s = (K.data.toList ++ [101] ++ ((if v0 - (QF.size : Int) + (j : Int) < 0 then [45] else []) ++ decL (v0 - (QF.size : Int) + (j : Int)).natAbs) ++ (endB big).data.toList, 0) := fun j hj e => HC.out.trans (by
          rw [if_neg (fun x => e (hDe.1 x)), show D0.size - K.size = j by omega]
          rfl)
        have HS := Lib.hid hself
        have HC1 := Lib.hid hC1
        have HC2 := Lib.hid hC2
        clear hz0 hself hDe hC1 hC2 HC hK hKl HHD HWF HAD
        obtain ⟨v1, hv1e⟩ : ∃ v1 : Int, v1 = v0 - (QF.size : Int) := ⟨_, rfl⟩
        rw [← hv1e] at HC2 ⊢
        have hw1 : -1004194304 ≤ v1 := by omega
        have hw2 : v1 ≤ 1000000000 := by omega
        clear hv1e hv1 hv2
        go_wp2_with fail
        go_loop [9, 10] (fun v d => ∃ (j : Nat) (T : ByteArray), v = .int .i64 (v1 + j) ∧ d = .string T ∧ T.data.toList ++ List.replicate j 48 = D0.data.toList ∧ T.size + j = D0.size) (fun _ d => strN d)
        case atStart => exact ⟨0, D0, by go_num, rfl, by simp, rfl⟩
        case round =>
          obtain ⟨j, T, rfl, rfl, hTl, hTs⟩ := hrel
          by_cases hT0 : 0 < T.size
          · have hlt : T.size - 1 < T.size := by omega
            by_cases h48 : T[T.size - 1] = 48
            · have b0 : (((T[T.size - 1].toNat : Nat) : Int) == 48) = true := eq_fact h48
              have HN := Lib.hid (show (T.extract 0 (T.size - 1)).data.toList ++ List.replicate (j + 1) 48 = D0.data.toList by
                rw [← hTl]
                conv => rhs; rw [init_last T hT0, h48]
                rw [List.replicate_succ]
                simp)
              clear hTl h48
              go_wp2_with fail
              go_round
              case rel => exact ⟨j + 1, T.extract 0 (T.size - 1), by go_num, rfl, HN.out, by rw [ByteArray.size_extract]; omega⟩
              case measure => show (T.extract 0 (T.size - 1)).size < T.size; rw [ByteArray.size_extract]; omega
            · have b0 : (((T[T.size - 1].toNat : Nat) : Int) == 48) = false := ne_fact h48
              obtain rfl := HS.out T j hTl (fun c hc => by rw [last_get T hT0] at hc; rw [← Option.some.inj hc]; exact h48)
              have HC3 := Lib.hid (HC2.out j hTs (fun e => by rw [← ofl, e] at hT0; exact absurd hT0 (by decide)))
              have hne := isEmpty_pos hT0
              have hdec := fun W => decimal_any (v1 + j) (by omega) (by omega) W
              obtain ⟨X, hX, hXl⟩ := mk_of ((if v1 + (j : Int) < 0 then [45] else []) ++ decL (v1 + (j : Int)).natAbs)
              rw [hX] at hdec
              rw [← hXl] at HC3
              have hXs : X.size ≤ 12 := by
                rw [← ofl, hXl, List.length_append]
                have h1 := decL_len10 10 (v1 + (j : Int)).natAbs (by have : (10 : Nat) ^ 10 = 10000000000 := by decide
                                                                     omega)
                split <;> simp <;> omega
              have HD := Lib.hid hdec
              clear hdec hX hXl hTl h48 HS HC1 HC2
              go_wp2_with (go_at_call 31; refine (HD.out _).mono ?_; rintro e w7 ⟨rfl, hb7⟩)
              go_ret2
              refine ⟨?_, bel_next hB6 hb7⟩
              rw [HC3.out, ← byteArray_ext (T ++ ⟨#[101]⟩ ++ X ++ endB big) (T.data.toList ++ [101] ++ X.data.toList ++ (endB big).data.toList) (by simp)]
              rfl
          · have hTe : T.data.toList = [] := List.length_eq_zero_iff.1 (by rw [ofl]; omega)
            obtain rfl := HS.out T j hTl (fun c hc => by rw [hTe] at hc; cases hc)
            have HC3 := Lib.hid (HC1.out hTe)
            have hem := isEmpty_zero (show T.size = 0 by omega)
            clear hTl hTe HS HC1 HC2
            go_wp2_with fail
            go_ret2
            refine ⟨?_, hB6⟩
            rw [HC3.out, ← byteArray_ext (⟨#[48]⟩ ++ endB big) ([48] ++ (endB big).data.toList) (by simp)]
            rfl
/-- Canon. -/
theorem canon_ref (s : ByteArray) (w : World) (hs : s.size ≤ 2097152) :
    Calls Tryd.prog 10 #[.string s] w fun e w' => e = .returned (.tuple #[.string ⟨(canonB s).1.toArray⟩, .int .i64 (canonB s).2]) ∧ Below w.heap.size w w' := by
  cases h : (readB s).2 with
  | false => exact canon_ref_no s w hs h
  | true =>
    cases ho : isOth s with
    | true => exact canon_ref_oth s w hs h ho
    | false => exact canon_ref_ten s w hs h ho
end Go.Proofs.YthnchejhcmpipaaDoor
