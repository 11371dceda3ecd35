/- Contract of the reference's Print on numbers of base ten, and all together. Condition: at most 2^21 bytes. -/
import Derived.Test.YthnchejhcmpipaaDoorRJ
import Derived.Test.YthnchejhcmpipaaDoorN
namespace Go.Proofs.YthnchejhcmpipaaDoor
open Go.RowKit

theorem trimS_self {l : List UInt8} (h : ∀ c, l.getLast? = some c → c ≠ 48 ∧ c ≠ 95) : Lib.trimRightS l [48, 95] = l := by
  unfold Lib.trimRightS
  rcases nil_or_snoc l with rfl | ⟨m, c, rfl⟩
  · rfl
  · have := h c (by simp)
    rw [List.reverse_append, List.reverse_singleton, List.singleton_append, List.dropWhile_cons_of_neg (by simp [this])]
    simp
theorem trimS_append (l v : List UInt8) (h : ∀ c ∈ v, c = 48 ∨ c = 95) : Lib.trimRightS (l ++ v) [48, 95] = Lib.trimRightS l [48, 95] := by
  unfold Lib.trimRightS
  rw [List.reverse_append, List.dropWhile_append]
  have : List.dropWhile (([48, 95] : List UInt8).contains ·) v.reverse = [] := by
    have g : ∀ m : List UInt8, (∀ c ∈ m, c = 48 ∨ c = 95) → List.dropWhile (([48, 95] : List UInt8).contains ·) m = [] := by
      intro m
      induction m with
      | nil => intro _; rfl
      | cons a m ih =>
        intro hm
        have ha := hm a List.mem_cons_self
        rw [List.dropWhile_cons_of_pos (by rcases ha with rfl | rfl <;> decide)]
        exact ih fun c hc => hm c (List.mem_cons_of_mem _ hc)
    exact g _ fun c hc => h c (List.mem_reverse.1 hc)
  rw [this]
  rfl
set_option maxRecDepth 100000 in
set_option maxHeartbeats 2000000 in
theorem print_ref_ten (s : ByteArray) (w : World) (hs : s.size ≤ 2097152) (h : (readB s).2 = true) (ho : isOth s = false) :
    Calls Tryd.prog 11 #[.string s] w fun e w' => e = .returned (.tuple #[.string ⟨(printB s).1.toArray⟩, .int .i64 (printB s).2]) ∧ Below w.heap.size w w' := by
  have hof := fun W => of_yes s W (by omega) h
  obtain ⟨wl, pt, f, ex, minus, p, big, hT, hR, hlen⟩ := Ten.of ho h
  have hb : baseOf s = 10 := by unfold baseOf; rw [ho, if_neg (by decide)]
  have hC : printB s = (printT (tenLit wl pt f ex minus p big), 0) := by
    unfold printB
    rw [hR, if_pos rfl, if_neg (base10 _ _ _ _ _ _ _)]
  rw [hR, hb] at hof
  unfold tenText at hlen
  rw [List.length_append, List.length_append, List.length_append, expText_len, ptText_len _ _ hT.nopt] at hlen
  have hps : p.length ≤ s.size := by
    cases hex : ex with
    | true => rw [hex, if_pos rfl] at hlen; omega
    | false => rw [(hT.noex hex).2]; exact Nat.zero_le _
  obtain ⟨WL, hW, hWl⟩ := mk_of_data wl
  obtain ⟨FL, hF, hFl⟩ := mk_of_data f
  obtain ⟨PL, hP, hPl⟩ := mk_of_data p
  obtain ⟨Z, hZ, hZl⟩ := mk_of_data (zeroOr WL.data.toList)
  obtain ⟨F, hFt, hFtl⟩ := mk_of_data (Lib.trimRightS FL.data.toList [48, 95])
  obtain ⟨PF, hPF, hPFl⟩ := mk_of_data (partP F.data.toList)
  obtain ⟨X, hX, hXl⟩ := mk_of_data (expP ⟨10, WL, pt, FL, ex, minus, PL, big⟩)
  have hCR : printT (tenLit wl pt f ex minus p big) = Z.data.toList ++ PF.data.toList ++ X.data.toList ++ (endB big).data.toList := by
    rw [hZl, hPFl, hXl, hFtl, hWl, hFl]
    unfold printT
    have e : expP (tenLit wl pt f ex minus p big) = expP ⟨10, WL, pt, FL, ex, minus, PL, big⟩ := by
      unfold expP
      rw [hPl]
      rfl
    rw [e]
    rfl
  rw [hCR] at hC
  have zW : WL.size ≤ 2097152 := by rw [← ofl, hWl]; omega
  have zF : FL.size ≤ 2097152 := by rw [← ofl, hFl]; omega
  have zP : PL.size ≤ 2097152 := by rw [← ofl, hPl]; omega
  have zZ : Z.size ≤ 2097153 := by
    rw [← ofl, hZl]
    unfold zeroOr
    split
    · decide
    · rw [ofl]; omega
  have zFt : F.size ≤ 2097152 := by
    rw [← ofl, hFtl]
    have h1 := (List.dropWhile_sublist (([48, 95] : List UInt8).contains ·) (l := FL.data.toList.reverse)).length_le
    rw [List.length_reverse, ofl] at h1
    unfold Lib.trimRightS
    rw [List.length_reverse]
    omega
  have zPF : PF.size ≤ 2097153 := by
    rw [← ofl, hPFl]
    unfold partP
    split
    · decide
    · rw [List.length_cons, ofl]; omega
  have zX : X.size ≤ 2097154 := by
    rw [← ofl, hXl]
    unfold expP
    split
    · rw [List.length_cons, List.length_append, ofl]
      simp only
      split <;> simp <;> omega
    · decide
  have hPP : ({ tenLit wl pt f ex minus p big with base := 10 } : Lit) = ⟨10, WL, pt, FL, ex, minus, PL, big⟩ := by rw [← hW, ← hF, ← hP]; rfl
  rw [hPP] at hof
  unfold Lit.val Lit.cells at hof
  simp only at hof
  have hself := fun (T : ByteArray) (v : List UInt8) (hT : T.data.toList ++ v = FL.data.toList) (hv : ∀ c ∈ v, c = 48 ∨ c = 95) (hl : ∀ c, T.data.toList.getLast? = some c → c ≠ 48 ∧ c ≠ 95) => show T = F from ba_ext (by rw [hFtl, ← hT, trimS_append _ _ hv, trimS_self hl])
  have hEs : (endB big).size ≤ 1 := by cases big <;> decide
  have HO := Lib.hid hof
  have HC := Lib.hid hC
  have HZ := Lib.hid hZl
  have HPF := Lib.hid hPFl
  have HX := Lib.hid hXl
  have HS := Lib.hid hself
  clear hof hC hCR hPP hself hW hWl hF hFl hP hPl hZ hZl hFt hFtl hPF hPFl hX hXl hT hR hlen hps hb h ho
  go_enter Tryd.func11, Tryd.ntmps11
  go_upto_region 2 with (go_at_call 26; refine (HO.out _).mono ?_; rintro e w1 ⟨rfl, hb1⟩)
  have hP : ParAt (w1.alloc (.cells (Lit.cells ⟨10, WL, pt, FL, ex, minus, PL, big⟩) 49)) w1.heap.size ⟨10, WL, pt, FL, ex, minus, PL, big⟩ := heap_alloc_new _ _
  have hB : Below w.heap.size w (w1.alloc (.cells (Lit.cells ⟨10, WL, pt, FL, ex, minus, PL, big⟩) 49)) := bel_alloc hb1 _
  have e0 : w1.alloc (.cells (Lit.cells ⟨10, WL, pt, FL, ex, minus, PL, big⟩) 49) = w1.alloc (.cells #[.int .i64 10, .string WL, .bool pt, .string FL, .bool ex, .bool minus, .string PL, .bool big] 49) := rfl
  rw [e0] at hP hB
  generalize w1.alloc (.cells #[.int .i64 10, .string WL, .bool pt, .string FL, .bool ex, .bool minus, .string PL, .bool big] 49) = w2 at *
  generalize w1.heap.size = bp at *
  clear e0 hb1 HO
  have HP := Lib.hid hP
  clear hP
  obtain ⟨c0, c1, c2, c3, c4, c5, c6, c7, f0, f1, f2, f3, f4, f5, f6, f7⟩ := ParAt.facts HP.out
  go_upto_if 69 with fail
  go_cut [10] (fun t wx => t = .string Z ∧ wx = w2)
  case first =>
    cases he : WL.toList.isEmpty with
    | true =>
      have H1 := Lib.hid (show Z = ⟨#[48]⟩ from ba_ext (by rw [HZ.out, ← Lib.toList_data, List.isEmpty_iff.1 he]; rfl))
      go_wp2_with fail
      go_meet
      exact ⟨by rw [H1.out], rfl⟩
    | false =>
      have H1 := Lib.hid (show Z = WL from ba_ext (by rw [HZ.out]; unfold zeroOr; rw [if_neg]; intro h; rw [Lib.toList_data, h] at he; cases he))
      go_wp2_with fail
      go_meet
      exact ⟨by rw [H1.out], rfl⟩
  case rest =>
    obtain ⟨rfl, hwc⟩ := hcut
    subst hwc
    go_upto_block 2 with fail
    go_cut [11] (fun t wx => t = .string F ∧ wx = wc)
    case first =>
      clear HC HZ HPF HX
      go_wp2_with fail
      go_loop [11] (fun d => ∃ (v : List UInt8) (T : ByteArray), d = .string T ∧ T.data.toList ++ v = FL.data.toList ∧ (∀ c ∈ v, c = 48 ∨ c = 95) ∧ T.size ≤ FL.size) (fun d => strN d)
      case atStart => exact ⟨[], FL, rfl, by simp, fun c hc => by (cases hc), Nat.le_refl _⟩
      case round =>
        obtain ⟨v, T, rfl, hTl, hvl, hTs⟩ := hrel
        by_cases hT0 : 0 < T.size
        · have hlt : T.size - 1 < T.size := by omega
          have hN := fun (hc : T[T.size - 1] = 48 ∨ T[T.size - 1] = 95) => show (T.extract 0 (T.size - 1)).data.toList ++ (T[T.size - 1] :: v) = FL.data.toList ∧ (∀ c ∈ T[T.size - 1] :: v, c = 48 ∨ c = 95) from by
            refine ⟨?_, fun c hcm => ?_⟩
            · rw [← hTl]
              conv => rhs; rw [init_last T hT0]
              simp
            · rcases List.mem_cons.1 hcm with rfl | hcm
              · exact hc
              · exact hvl c hcm
          by_cases h48 : T[T.size - 1] = 48
          · have b0 : (((T[T.size - 1].toNat : Nat) : Int) == 48) = true := eq_fact h48
            have HN := Lib.hid (hN (.inl h48))
            clear hTl h48 hN hvl
            go_wp2_with fail
            go_round
            case rel => exact ⟨_, T.extract 0 (T.size - 1), rfl, HN.out.1, HN.out.2, by rw [ByteArray.size_extract]; omega⟩
            case measure => show (T.extract 0 (T.size - 1)).size < T.size; rw [ByteArray.size_extract]; omega
          · have b0 : (((T[T.size - 1].toNat : Nat) : Int) == 48) = false := ne_fact h48
            by_cases h95 : T[T.size - 1] = 95
            · have b1 : (((T[T.size - 1].toNat : Nat) : Int) == 95) = true := eq_fact h95
              have HN := Lib.hid (hN (.inr h95))
              clear hTl h48 h95 hN hvl
              go_wp2_with fail
              go_round
              case rel => exact ⟨_, T.extract 0 (T.size - 1), rfl, HN.out.1, HN.out.2, by rw [ByteArray.size_extract]; omega⟩
              case measure => show (T.extract 0 (T.size - 1)).size < T.size; rw [ByteArray.size_extract]; omega
            · have b1 : (((T[T.size - 1].toNat : Nat) : Int) == 95) = false := ne_fact h95
              obtain rfl := HS.out T v hTl hvl (fun c hc => by rw [last_get T hT0] at hc; rw [← Option.some.inj hc]; exact ⟨h48, h95⟩)
              clear hTl h48 h95 hN hvl HS
              go_wp2_with fail
              go_meet
              exact ⟨rfl, rfl⟩
        · have hTe : T.data.toList = [] := List.length_eq_zero_iff.1 (by rw [ofl]; omega)
          obtain rfl := HS.out T v hTl hvl (fun c hc => by rw [hTe] at hc; cases hc)
          clear hTl hTe HS hvl
          go_wp2_with fail
          go_meet
          exact ⟨rfl, rfl⟩
    case rest =>
      obtain ⟨rfl, hwc⟩ := hcut
      subst hwc
      clear HS
      go_upto_if 97 with fail
      go_cut [10] (fun t wx => t = .string (Z ++ PF) ∧ wx = wc)
      case first =>
        cases he : F.toList.isEmpty with
        | true =>
          have H1 := Lib.hid (show Z ++ PF = Z from ba_ext (by rw [ByteArray.data_append, Array.toList_append, HPF.out, ← Lib.toList_data F, List.isEmpty_iff.1 he]; simp [partP]))
          go_wp2_with fail
          go_meet
          exact ⟨by rw [H1.out], rfl⟩
        | false =>
          have H1 := Lib.hid (show Z ++ PF = Z ++ ⟨#[46]⟩ ++ F from ba_ext (by
            rw [ByteArray.data_append, Array.toList_append, HPF.out]
            unfold partP
            rw [if_neg (by intro h; rw [Lib.toList_data, h] at he; cases he)]
            simp))
          go_wp2_with fail
          go_meet
          exact ⟨by rw [H1.out], rfl⟩
      case rest =>
        obtain ⟨rfl, hwc⟩ := hcut
        subst hwc
        clear c0 c1 c2 c3 c4 c5 c6 c7 f0 f1 f2 f3 f4 f5 f6 f7
        obtain ⟨c0, c1, c2, c3, c4, c5, c6, c7, f0, f1, f2, f3, f4, f5, f6, f7⟩ := ParAt.facts HP.out
        go_upto_if 103 with fail
        go_cut [10] (fun t wx => t = .string (Z ++ PF ++ X) ∧ wx = wc)
        case first =>
          cases ex with
          | false =>
            have H1 := Lib.hid (show Z ++ PF ++ X = Z ++ PF from ba_ext (by rw [ByteArray.data_append, Array.toList_append, HX.out]; simp [expP]))
            go_wp2_with fail
            go_meet
            exact ⟨by rw [H1.out], rfl⟩
          | true =>
            cases minus with
            | false =>
              have H1 := Lib.hid (show Z ++ PF ++ X = Z ++ PF ++ ⟨#[101]⟩ ++ PL from ba_ext (by rw [ByteArray.data_append, Array.toList_append, HX.out]; simp [expP]))
              go_wp2_with fail
              go_meet
              exact ⟨by rw [H1.out], rfl⟩
            | true =>
              have H1 := Lib.hid (show Z ++ PF ++ X = Z ++ PF ++ ⟨#[101]⟩ ++ ⟨#[45]⟩ ++ PL from ba_ext (by rw [ByteArray.data_append, Array.toList_append, HX.out]; simp [expP]))
              go_wp2_with fail
              go_meet
              exact ⟨by rw [H1.out], rfl⟩
        case rest =>
          obtain ⟨rfl, hwc⟩ := hcut
          subst hwc
          clear c0 c1 c2 c3 c4 c5 c6 c7 f0 f1 f2 f3 f4 f5 f6 f7
          obtain ⟨c0, c1, c2, c3, c4, c5, c6, c7, f0, f1, f2, f3, f4, f5, f6, f7⟩ := ParAt.facts HP.out
          cases big with
          | true =>
            go_wp2_with fail
            go_ret2
            refine ⟨?_, hB⟩
            rw [HC.out, ← byteArray_ext (Z ++ PF ++ X ++ ⟨#[110]⟩) (Z.data.toList ++ PF.data.toList ++ X.data.toList ++ (endB true).data.toList) (by simp [endB])]
            rfl
          | false =>
            go_wp2_with fail
            go_ret2
            refine ⟨?_, hB⟩
            rw [HC.out, ← byteArray_ext (Z ++ PF ++ X) (Z.data.toList ++ PF.data.toList ++ X.data.toList ++ (endB false).data.toList) (by simp [endB])]
            rfl
/-- Print. -/
theorem print_ref (s : ByteArray) (w : World) (hs : s.size ≤ 2097152) :
    Calls Tryd.prog 11 #[.string s] w fun e w' => e = .returned (.tuple #[.string ⟨(printB s).1.toArray⟩, .int .i64 (printB s).2]) ∧ Below w.heap.size w w' := by
  cases h : (readB s).2 with
  | false => exact print_ref_no s w hs h
  | true =>
    cases ho : isOth s with
    | false => exact print_ref_ten s w hs h ho
    | true =>
      obtain ⟨c1, wl, big, hO⟩ := Oth.of ho h
      have hbo : baseOf s = letNum (c1.toNat ||| 32) := by
        unfold baseOf
        rw [if_pos ho, hO.txt]
        rfl
      rcases hO.hb with hc | hc | hc
      · exact print_ref_hex s w hs c1 wl big hO 16 (by rw [hbo, hc]; rfl) rfl hc
      · exact print_ref_low s w hs c1 wl big hO 8 (by rw [hbo, hc]; rfl) (.inl rfl) (by rw [hc]; decide)
      · exact print_ref_low s w hs c1 wl big hO 2 (by rw [hbo, hc]; rfl) (.inr rfl) (by rw [hc]; decide)
/-- NumForms' function. -/
theorem forms_law (s : ByteArray) (w : World) (hs : s.size ≤ 1048576) (hM : MaxAt w) :
    Calls Tryd.prog 3 #[.string s] w fun e w' => e = .returned (.bool true) ∧ Below w.heap.size w w' := by
  have k1 := fun W h => check_any s W (by omega) h
  have k2 := fun W => check_ref s W (by omega)
  have a1 := fun W h => canon_any s W (by omega) h
  have a2 := fun W => canon_ref s W (by omega)
  have b1 := fun W h => print_any s W (by omega) h
  have b2 := fun W => print_ref s W (by omega)
  obtain ⟨A, hA⟩ : ∃ A : ByteArray, (⟨(canonB s).1.toArray⟩ : ByteArray) = A := ⟨_, rfl⟩
  obtain ⟨B, hB⟩ : ∃ B : ByteArray, (⟨(printB s).1.toArray⟩ : ByteArray) = B := ⟨_, rfl⟩
  obtain ⟨c, hc⟩ : ∃ c : Int, (if (readB s).2 = true then (0 : Int) else 200) = c := ⟨_, rfl⟩
  rw [hA] at a1 a2
  rw [hB] at b1 b2
  rw [hc] at k1 k2
  generalize (canonB s).2 = ca at *
  generalize (printB s).2 = cb at *
  have K1 := Lib.hid k1
  have K2 := Lib.hid k2
  have A1 := Lib.hid a1
  have A2 := Lib.hid a2
  have B1 := Lib.hid b1
  have B2 := Lib.hid b2
  have HM := Lib.hid hM
  clear k1 k2 a1 a2 b1 b2 hM hA hB hc
  go_enter Tryd.func3, Tryd.ntmps3
  go_upto_region 3 with (first | (go_at_call 7; refine (K1.out _ HM.out).mono ?_; rintro e w1 ⟨rfl, hb1⟩) | (go_at_call 8; refine (A1.out _ (HM.out.below hb1)).mono ?_; rintro e w2 ⟨rfl, hb2⟩))
  have HM2 := Lib.hid ((HM.out.below hb1).below hb2)
  go_upto_region 6 with (first | (go_at_call 9; refine (B1.out _ HM2.out).mono ?_; rintro e w3 ⟨rfl, hb3⟩) | (go_at_call 10; refine (A2.out _).mono ?_; rintro e w4 ⟨rfl, hb4⟩) | (go_at_call 11; refine (B2.out _).mono ?_; rintro e w5 ⟨rfl, hb5⟩))
  have HM5 := Lib.hid (((HM2.out.below hb3).below hb4).below hb5)
  go_wp2_with (first | (go_at_call 12; refine (num_any _ _).mono ?_; rintro e w' ⟨rfl, rfl⟩) | (go_at_call 13; refine (K2.out _).mono ?_; rintro e w6 ⟨rfl, hb6⟩) | (go_at_call 14; refine (awake_any _ (HM5.out.below hb6)).mono ?_; rintro e w7 ⟨rfl, hb7⟩))
  go_ret
  exact ⟨rfl, bel_next (bel_next (bel_next (bel_next (bel_next (bel_next hb1 hb2) hb3) hb4) hb5) hb6) hb7⟩
end Go.Proofs.YthnchejhcmpipaaDoor
