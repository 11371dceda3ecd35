/- Contract of num.Print. Conditions: at most 2^21 bytes; MaxLen holds a number. -/
import Derived.Test.YthnchejhcmpipaaDoorL
import Derived.Shelf.Strings.SlTrimAscii
namespace Go.Proofs.YthnchejhcmpipaaDoor
open Go.RowKit

theorem tr_0_ (s : ByteArray) (w : World) (hs : s.size ≤ 16777216) :
    Calls Tryd.prog 23 #[.string s, .string ⟨#[48, 95]⟩] w fun e w' => e = .returned (.string ⟨(Lib.trimRightS s.data.toList [48, 95]).toArray⟩) ∧ Below w.heap.size w w' :=
  Any.strings_TrimRight_laid Tryd.lays162 (by kernel_rfl) s ⟨#[48, 95]⟩ w (by omega) (by decide) (Go.Proofs.ascii_of_all (by decide))
/-- Print of a number of another base. -/
def printO (s : ByteArray) (x : Lit) : List UInt8 :=
  Lib.toLowerA (s.data.toList.take 2) ++ (if (s.data.toList[1]!.toNat ||| 32) = 120 then Lib.toUpperA x.whole.data.toList else Lib.toLowerA x.whole.data.toList) ++ (endB x.big).data.toList
/-- Print of a number of base ten. -/
def partP (l : List UInt8) : List UInt8 := if l = [] then [] else 46 :: l
def expP (x : Lit) : List UInt8 := if x.ex = true then 101 :: ((if x.minus = true then [45] else []) ++ x.power.data.toList) else []
def printT (x : Lit) : List UInt8 := zeroOr x.whole.data.toList ++ partP (Lib.trimRightS x.part.data.toList [48, 95]) ++ expP x ++ (endB x.big).data.toList
def printB (s : ByteArray) : List UInt8 × Int := if (readB s).2 = true then (if (readB s).1.base = 16 then printO s (readB s).1 else printT (readB s).1, 0) else ([], 200)

set_option maxRecDepth 20000 in
set_option maxHeartbeats 2000000 in
theorem print_any (s : ByteArray) (w : World) (hs : s.size ≤ 2097152) (hM : MaxAt w) :
    Calls Tryd.prog 9 #[.string s] w fun e w' => e = .returned (.tuple #[.string ⟨(printB s).1.toArray⟩, .int .i64 (printB s).2]) ∧ Below w.heap.size w w' := by
  have hR := read_any s w (by omega) hM
  have hok : LitOk s (readB s).1 := scan_ok s
  have hcb : printB s = if (readB s).2 = true then (if (readB s).1.base = 16 then printO s (readB s).1 else printT (readB s).1, 0) else ([], 200) := rfl
  have hoth : (readB s).1.base = 16 → 2 < s.size ∧ ∀ c ∈ s.data.toList.take 2, c.toNat < 128 := fun h => by
    rw [hok.base] at h
    cases ho : isOth s with
    | false => rw [ho] at h; cases h
    | true => exact isOth_two ho
  generalize readB s = q at *
  obtain ⟨x, f⟩ := q
  simp only at hR hok hcb hoth
  have HR := Lib.hid hR
  have HCB := Lib.hid hcb
  clear hR hM hcb
  cases f with
  | false =>
    have HF := Lib.hid (HCB.out.trans (if_neg (by decide)))
    clear hok hoth HCB
    have HR2 := Lib.hid HR.out
    obtain ⟨base, whole, point, part, ex, minus, power, big⟩ := x
    unfold Lit.val Lit.cells at HR2
    clear HR
    go_enter Tryd.func9, Tryd.ntmps9
    go_wp2_with (go_at_call 18; refine HR2.out.mono ?_; rintro e w1 ⟨rfl, hb1⟩)
    go_ret2
    exact ⟨by rw [HF.out]; rfl, bel_alloc hb1 _⟩
  | true =>
    have HF := Lib.hid (HCB.out.trans (if_pos rfl))
    clear HCB
    have hw := hok.whole
    have hsz := hok.sizes
    obtain ⟨base, whole, point, part, ex, minus, power, big⟩ := x
    simp only at hw hsz hoth
    obtain ⟨bb, hwa, _⟩ := hw
    obtain ⟨z1, z2, z3⟩ := hsz
    have HR2 := Lib.hid HR.out
    unfold Lit.val Lit.cells at HR2
    have hen : (endB big).size ≤ 1 := by cases big <;> decide
    clear HR hok
    by_cases h16 : base = 16
    · subst h16
      obtain ⟨hs2, has⟩ := hoth rfl
      rw [if_pos rfl] at HF
      have h1s : 1 < s.size := by omega
      have hg1 : s.data.toList[1]! = s[1] := getElem!_pos s.data.toList 1 (by rw [ofl]; exact h1s)
      obtain ⟨B, hB, hBl⟩ := mk_of (Lib.toLowerA whole.data.toList)
      obtain ⟨U, hU, hUl⟩ := mk_of (Lib.toUpperA whole.data.toList)
      obtain ⟨E, hE, hEl⟩ := mk_of (Lib.toLowerA (s.extract 0 2).data.toList)
      have hasc : ∀ c ∈ whole.data.toList, c.toNat < 128 := fun c hc => okB_ascii (hwa c hc)
      have cB := fun W => Tryd.strings_ToLower_ascii whole W (by omega) (ascii_of hasc)
      have cU := fun W => Tryd.strings_ToUpper_ascii whole W (by omega) (ascii_of hasc)
      have hse : (s.extract 0 2).data.toList = s.data.toList.take 2 := extract_take s 2
      have cE := fun W => Tryd.strings_ToLower_ascii (s.extract 0 2) W (by rw [ByteArray.size_extract]; omega) (ascii_of (by rw [hse]; exact has))
      rw [hB] at cB
      rw [hU] at cU
      rw [hE] at cE
      have HCR := Lib.hid (show printO s ⟨16, whole, point, part, ex, minus, power, big⟩ = E.data.toList ++ (if (s[1].toNat ||| 32) = 120 then U.data.toList else B.data.toList) ++ (endB big).data.toList by
        unfold printO; rw [hEl, hBl, hUl, hse, hg1])
      have hBs : B.size ≤ 2097152 := by
        rw [← ofl, hBl]
        have h2 : (Lib.toLowerA whole.data.toList).length = whole.data.toList.length := List.length_map _
        rw [h2, ofl]
        omega
      have hUs : U.size ≤ 2097152 := by
        rw [← ofl, hUl]
        have h2 : (Lib.toUpperA whole.data.toList).length = whole.data.toList.length := List.length_map _
        rw [h2, ofl]
        omega
      have hEs : E.size = 2 := by
        rw [← ofl, hEl]
        have h2 : (Lib.toLowerA (s.extract 0 2).data.toList).length = (s.extract 0 2).data.toList.length := List.length_map _
        rw [h2, ofl, ByteArray.size_extract]
        omega
      generalize hS2 : s.extract 0 2 = S2 at *
      have CB := Lib.hid cB
      have CU := Lib.hid cU
      have CE := Lib.hid cE
      have hor := or32 s[1]
      clear cB cU cE hB hU hE hBl hUl hEl hasc hse has hwa hoth hg1
      go_enter Tryd.func9, Tryd.ntmps9
      go_upto_region 2 with (go_at_call 18; refine HR2.out.mono ?_; rintro e w1 ⟨rfl, hb1⟩)
      have hL : LitAt (w1.alloc (.cells (Lit.cells ⟨16, whole, point, part, ex, minus, power, big⟩) 40)) w1.heap.size ⟨16, whole, point, part, ex, minus, power, big⟩ := heap_alloc_new _ _
      have hb2 : Below w.heap.size w (w1.alloc (.cells (Lit.cells ⟨16, whole, point, part, ex, minus, power, big⟩) 40)) := bel_alloc hb1 _
      unfold Lit.cells at hL hb2
      simp only at hL hb2
      generalize w1.alloc _ = w2 at *
      generalize w1.heap.size = b4 at *
      obtain ⟨c0, c1, c2, c3, c4, c5, c6, c7, f0, f1, f2, f3, f4, f5, f6, f7⟩ := LitAt.facts hL
      have HL := Lib.hid hL
      clear hL
      by_cases hx : (s[1].toNat ||| 32) = 120
      · have b1 : (((s[1].toNat ||| 32 : Nat) : Int) == 120) = true := by rw [hx]; rfl
        have HC2 := Lib.hid (HCR.out.trans (by rw [if_pos hx]))
        clear hx HCR
        go_upto_region 8 with (first | (go_at_call 20; refine (CB.out _).mono ?_; rintro e w3 ⟨rfl, hb3⟩; obtain ⟨c0, c1, c2, c3, c4, c5, c6, c7, f0, f1, f2, f3, f4, f5, f6, f7⟩ := LitAt.facts (HL.out.below hb3 HL.out.lt)) | (go_at_call 25; refine (CU.out _).mono ?_; rintro e w4 ⟨rfl, hb4⟩))
        have HL4 := Lib.hid (HL.out.below (bel_next hb3 hb4) HL.out.lt)
        go_wp2_with (first | (go_at_call 20; refine (CE.out _).mono ?_; rintro e w5 ⟨rfl, hb5⟩) | (go_at_call 22; refine (end_any _ big _ ((HL4.out.below hb5 HL4.out.lt).cell 7)).mono ?_; rintro e w6 ⟨rfl, rfl⟩))
        go_ret2
        refine ⟨?_, bel_next (bel_next (bel_next hb2 hb3) hb4) hb5⟩
        rw [HF.out, HC2.out, ← byteArray_ext (E ++ U ++ endB big) (E.data.toList ++ U.data.toList ++ (endB big).data.toList) (by simp)]
        rfl
      · have b1 : (((s[1].toNat ||| 32 : Nat) : Int) == 120) = false := by rw [beq_eq_false_iff_ne]; omega
        have HC2 := Lib.hid (HCR.out.trans (by rw [if_neg hx]))
        clear hx HCR
        go_upto_region 8 with (go_at_call 20; refine (CB.out _).mono ?_; rintro e w3 ⟨rfl, hb3⟩)
        have HL4 := Lib.hid (HL.out.below hb3 HL.out.lt)
        go_wp2_with (first | (go_at_call 20; refine (CE.out _).mono ?_; rintro e w5 ⟨rfl, hb5⟩) | (go_at_call 22; refine (end_any _ big _ ((HL4.out.below hb5 HL4.out.lt).cell 7)).mono ?_; rintro e w6 ⟨rfl, rfl⟩))
        go_ret2
        refine ⟨?_, bel_next (bel_next hb2 hb3) hb5⟩
        rw [HF.out, HC2.out, ← byteArray_ext (E ++ B ++ endB big) (E.data.toList ++ B.data.toList ++ (endB big).data.toList) (by simp)]
        rfl
    · have hb16 : ((base : Int) == 16) = false := by rw [beq_eq_false_iff_ne]; omega
      rw [if_neg h16] at HF
      obtain ⟨Z, hZ, hZl⟩ := mk_of (zeroOr whole.data.toList)
      obtain ⟨F, hF, hFl⟩ := mk_of (Lib.trimRightS part.data.toList [48, 95])
      obtain ⟨PF, hPF, hPFl⟩ := mk_of (partP F.data.toList)
      obtain ⟨X, hX, hXl⟩ := mk_of (expP ⟨base, whole, point, part, ex, minus, power, big⟩)
      have HCR := Lib.hid (show printT ⟨base, whole, point, part, ex, minus, power, big⟩ = Z.data.toList ++ PF.data.toList ++ X.data.toList ++ (endB big).data.toList by
        unfold printT; rw [hZl, hPFl, hXl, hFl])
      have cF := fun W => tr_0_ part W (by omega)
      rw [hF] at cF
      have CF := Lib.hid cF
      have hFs : F.size ≤ 2097152 := by
        rw [← ofl, hFl]
        have h1 := (List.dropWhile_sublist (([48, 95] : List UInt8).contains ·) (l := part.data.toList.reverse)).length_le
        rw [List.length_reverse, ofl] at h1
        unfold Lib.trimRightS
        rw [List.length_reverse]
        omega
      have hZs : Z.size ≤ 2097153 := by
        rw [← ofl, hZl]
        unfold zeroOr
        split
        · decide
        · rw [ofl]; omega
      have hPFs : PF.size ≤ 2097153 := by
        rw [← ofl, hPFl]
        unfold partP
        split
        · decide
        · rw [List.length_cons, ofl]; omega
      have hXs : X.size ≤ 2097154 := by
        rw [← ofl, hXl]
        unfold expP
        split
        · rw [List.length_cons, List.length_append, ofl]
          simp only
          split <;> simp <;> omega
        · decide
      have HZ := Lib.hid hZl
      have HPF := Lib.hid hPFl
      have HX := Lib.hid hXl
      clear cF hZ hF hPF hX hZl hFl hPFl hXl hwa hoth h16
      go_enter Tryd.func9, Tryd.ntmps9
      go_upto_region 2 with (go_at_call 18; refine HR2.out.mono ?_; rintro e w1 ⟨rfl, hb1⟩)
      have hL : LitAt (w1.alloc (.cells (Lit.cells ⟨base, whole, point, part, ex, minus, power, big⟩) 40)) w1.heap.size ⟨base, whole, point, part, ex, minus, power, big⟩ := heap_alloc_new _ _
      have hb2 : Below w.heap.size w (w1.alloc (.cells (Lit.cells ⟨base, whole, point, part, ex, minus, power, big⟩) 40)) := bel_alloc hb1 _
      unfold Lit.cells at hL hb2
      simp only at hL hb2
      generalize w1.alloc _ = w2 at *
      generalize w1.heap.size = b4 at *
      obtain ⟨c0, c1, c2, c3, c4, c5, c6, c7, f0, f1, f2, f3, f4, f5, f6, f7⟩ := LitAt.facts hL
      have HL := Lib.hid hL
      clear hL
      go_upto_if 39 with fail
      go_cut [7] (fun t wx => t = .string Z ∧ wx = w2)
      case first =>
        cases he : whole.toList.isEmpty with
        | true =>
          have H1 := Lib.hid (show Z = ⟨#[48]⟩ from ba_ext (by rw [HZ.out, ← Lib.toList_data, List.isEmpty_iff.1 he]; rfl))
          go_wp2_with fail
          go_meet
          exact ⟨by rw [H1.out], rfl⟩
        | false =>
          have H1 := Lib.hid (show Z = whole from ba_ext (by rw [HZ.out]; unfold zeroOr; rw [if_neg]; intro h; rw [Lib.toList_data, h] at he; cases he))
          go_wp2_with fail
          go_meet
          exact ⟨by rw [H1.out], rfl⟩
      case rest =>
        obtain ⟨rfl, hwc⟩ := hcut
        subst hwc
        go_upto_if 44 with (go_at_call 23; refine (CF.out _).mono ?_; rintro e w3 ⟨rfl, hb3⟩)
        go_cut [7] (fun t wx => t = .string (Z ++ PF) ∧ wx = w3)
        case first =>
          cases he : F.toList.isEmpty with
          | true =>
            have H1 := Lib.hid (show Z ++ PF = Z from ba_ext (by rw [ByteArray.data_append, Array.toList_append, HPF.out, ← Lib.toList_data F, List.isEmpty_iff.1 he]; simp [partP]))
            go_wp2_with fail
            go_meet
            exact ⟨by rw [H1.out], rfl⟩
          | false =>
            have H1 := Lib.hid (show Z ++ PF = Z ++ (⟨#[46]⟩ ++ F) from ba_ext (by
              rw [ByteArray.data_append, Array.toList_append, HPF.out]
              unfold partP
              rw [if_neg (by intro h; rw [Lib.toList_data, h] at he; cases he)]
              simp))
            go_wp2_with fail
            go_meet
            exact ⟨by rw [H1.out], rfl⟩
        case rest =>
          obtain ⟨rfl, hwc⟩ := hcut
          subst hwc
          have hb3w := bel_next hb2 hb3
          have HL3 := Lib.hid (HL.out.below hb3 HL.out.lt)
          clear c0 c1 c2 c3 c4 c5 c6 c7 f0 f1 f2 f3 f4 f5 f6 f7 CF HL HR2 hb3
          obtain ⟨c0, c1, c2, c3, c4, c5, c6, c7, f0, f1, f2, f3, f4, f5, f6, f7⟩ := LitAt.facts HL3.out
          go_upto_if 50 with fail
          go_cut [7] (fun t wx => t = .string (Z ++ PF ++ X) ∧ wx = wc)
          case first =>
            cases ex with
            | false =>
              have H1 := Lib.hid (show Z ++ PF ++ X = Z ++ PF from ba_ext (by rw [ByteArray.data_append, Array.toList_append, HX.out]; simp [expP]))
              go_wp2_with fail
              go_meet
              exact ⟨by rw [H1.out], rfl⟩
            | true =>
              cases minus with
              | false =>
                have H1 := Lib.hid (show Z ++ PF ++ X = Z ++ PF ++ ⟨#[101]⟩ ++ power from ba_ext (by rw [ByteArray.data_append, Array.toList_append, HX.out]; simp [expP]))
                go_wp2_with fail
                go_meet
                exact ⟨by rw [H1.out], rfl⟩
              | true =>
                have H1 := Lib.hid (show Z ++ PF ++ X = Z ++ PF ++ ⟨#[101]⟩ ++ ⟨#[45]⟩ ++ power from ba_ext (by rw [ByteArray.data_append, Array.toList_append, HX.out]; simp [expP]))
                go_wp2_with fail
                go_meet
                exact ⟨by rw [H1.out], rfl⟩
          case rest =>
            obtain ⟨rfl, hwc⟩ := hcut
            subst hwc
            go_wp2_with (go_at_call 22; refine (end_any _ big _ (HL3.out.cell 7)).mono ?_; rintro e w6 ⟨rfl, rfl⟩)
            go_ret2
            refine ⟨?_, hb3w⟩
            rw [HF.out, HCR.out, ← byteArray_ext (Z ++ PF ++ X ++ endB big) (Z.data.toList ++ PF.data.toList ++ X.data.toList ++ (endB big).data.toList) (by simp)]
            rfl
end Go.Proofs.YthnchejhcmpipaaDoor
