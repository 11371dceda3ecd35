/- Plain: a number of another base, printed and read again. No program in sight. -/
import Derived.Test.YthnchejhcmpipaaDoorR
namespace Go.Proofs.YthnchejhcmpipaaDoor

def mkB (l : List UInt8) : ByteArray := ⟨l.toArray⟩
theorem mkB_list (l : List UInt8) : (mkB l).data.toList = l := rfl
theorem mkB_of {A : ByteArray} {l : List UInt8} (h : A.data.toList = l) : A = mkB l := ba_ext h
theorem mkB_size (l : List UInt8) : (mkB l).size = l.length := by rw [← ofl]; rfl
theorem oth_byte (c : UInt8) (h : ((c.toNat ||| 32) = 120 ∨ (c.toNat ||| 32) = 111 ∨ (c.toNat ||| 32) = 98) ∧ 65 ≤ c.toNat) : ((Lib.lowerB c).toNat ||| 32) = (c.toNat ||| 32) ∧ 65 ≤ (Lib.lowerB c).toNat := by
  have := all_bytes (P := fun c => (((c.toNat ||| 32) = 120 ∨ (c.toNat ||| 32) = 111 ∨ (c.toNat ||| 32) = 98) ∧ 65 ≤ c.toNat) → ((Lib.lowerB c).toNat ||| 32) = (c.toNat ||| 32) ∧ 65 ≤ (Lib.lowerB c).toNat) (by decide +kernel) c
  exact this h
theorem isOth_head {s : ByteArray} (h : isOth s = true) : ∃ c1 r, s.data.toList = 48 :: c1 :: r ∧ ((c1.toNat ||| 32) = 120 ∨ (c1.toNat ||| 32) = 111 ∨ (c1.toNat ||| 32) = 98) ∧ 65 ≤ c1.toNat := by
  have h2 := isOth_size h
  unfold isOth at h
  rw [dif_pos h2] at h
  simp only [Bool.and_eq_true, Bool.or_eq_true, beq_iff_eq, decide_eq_true_eq] at h
  have e0 := drop_cons s 0 (by omega)
  have e1 := drop_cons s 1 (by omega)
  rw [List.drop_zero] at e0
  refine ⟨s[1], s.data.toList.drop 2, ?_, ?_, h.2⟩
  · exact e0.trans (by rw [e1, h.1.1])
  · rcases h.1.2 with (h | h) | h
    · exact .inl h
    · exact .inr (.inl h)
    · exact .inr (.inr h)
theorem trimPrefix_nil {l : List UInt8} (h : Lib.trimPrefix l [110] = []) : l = (endB (Lib.hasPrefix l [110])).data.toList := by
  cases l with
  | nil => rfl
  | cons c r =>
    by_cases e : c = 110
    · subst e
      have h1 : Lib.trimPrefix (110 :: r) [110] = r := by simp [Lib.trimPrefix, Lib.hasPrefix]
      rw [h1] at h
      subst h
      rfl
    · have h1 : Lib.trimPrefix (c :: r) [110] = c :: r := by
        unfold Lib.trimPrefix
        rw [if_neg]
        simp [Lib.hasPrefix]
        try exact fun h => e h.symm
      rw [h1] at h
      cases h
def caseP (c1 : UInt8) (c : UInt8) : UInt8 := if (c1.toNat ||| 32) = 120 then Lib.upperB c else Lib.lowerB c
theorem caseP_D {c1 : UInt8} (hb : (c1.toNat ||| 32) = 120 ∨ (c1.toNat ||| 32) = 111 ∨ (c1.toNat ||| 32) = 98) (c : UInt8) : isD (c1.toNat ||| 32) (caseP c1 c) = isD (c1.toNat ||| 32) c := by
  unfold caseP
  split
  · rename_i h; rw [h]; exact isD_upper c
  · exact isD_lower hb c
theorem caseP_95 (c1 c : UInt8) : caseP c1 c = 95 ↔ c = 95 := by
  unfold caseP
  split
  · exact upper_95 c
  · exact lower_95 c
theorem lower_caseP (c1 c : UInt8) : Lib.lowerB (caseP c1 c) = Lib.lowerB c := by
  unfold caseP
  split
  · exact lower_upper c
  · exact lower_lower c
theorem caseP_caseP (c1 c2 c : UInt8) (h : (c2.toNat ||| 32) = (c1.toNat ||| 32)) : caseP c2 (caseP c1 c) = caseP c1 c := by
  unfold caseP
  rw [h]
  split
  · exact upper_upper c
  · exact lower_lower c
theorem casePL (c1 : UInt8) (l : List UInt8) : (if (c1.toNat ||| 32) = 120 then Lib.toUpperA l else Lib.toLowerA l) = l.map (caseP c1) := by
  by_cases h : (c1.toNat ||| 32) = 120
  · have : caseP c1 = Lib.upperB := by funext c; unfold caseP; rw [if_pos h]
    rw [if_pos h, this]; rfl
  · have : caseP c1 = Lib.lowerB := by funext c; unfold caseP; rw [if_neg h]
    rw [if_neg h, this]; rfl
theorem emp_isEmpty : emp.toList.isEmpty = true := isEmpty_zero rfl
/-- a whole number of another base. -/
structure Oth (t : ByteArray) (c1 : UInt8) (w : List UInt8) (big : Bool) : Prop where
  txt : t.data.toList = 48 :: c1 :: (w ++ (endB big).data.toList)
  hb : (c1.toNat ||| 32) = 120 ∨ (c1.toNat ||| 32) = 111 ∨ (c1.toNat ||| 32) = 98
  h65 : 65 ≤ c1.toNat
  run : runN (c1.toNat ||| 32) false w = w.length
  ne : w ≠ []
theorem Oth.read {t : ByteArray} {c1 : UInt8} {w : List UInt8} {big : Bool} (h : Oth t c1 w big) : readB t = (⟨16, mkB w, false, emp, false, false, emp, big⟩, true) := by
  obtain ⟨W, hW, hs⟩ := scanOth_parts t c1 w big h.txt h.hb h.run h.ne
  have hsc : scanB t = scanOth t := by unfold scanB; rw [if_pos (isOth_parts t c1 w big h.txt h.hb h.h65 h.ne)]
  unfold readB
  rw [hsc, hs, mkB_of hW]
  simp only [emp_isEmpty, Bool.and_self]
theorem Oth.of {s : ByteArray} (ho : isOth s = true) (hr : (readB s).2 = true) : ∃ c1 w big, Oth s c1 w big := by
  obtain ⟨c1, r, hs, hb, h65⟩ := isOth_head ho
  have hsc : scanB s = scanOth s := by unfold scanB; rw [if_pos ho]
  have h1 : s.data.toList[1]! = c1 := by rw [hs]; rfl
  have hD : (s.extract 2 s.size).data.toList = r := by rw [extract_drop, hs]; rfl
  unfold readB at hr
  rw [hsc] at hr
  unfold scanOth runB at hr
  simp only [h1, Bool.and_eq_true, decide_eq_true_eq, hD, extract_drop] at hr
  obtain ⟨hp, he⟩ := hr
  have hwl := hp
  rw [← ofl, extract_take, hD] at hwl
  rw [Lib.toList_data, List.isEmpty_iff] at he
  have hE := trimPrefix_nil (show Lib.trimPrefix (r.drop (runN (c1.toNat ||| 32) false r)) [110] = [] from he)
  refine ⟨c1, r.take (runN (c1.toNat ||| 32) false r), Lib.hasPrefix (r.drop (runN (c1.toNat ||| 32) false r)) [110], ?_, hb, h65, runN_take _ r false, List.length_pos_iff.1 hwl⟩
  rw [hs, ← hE, List.take_append_drop]
theorem Oth.canon {t : ByteArray} {c1 : UInt8} {w : List UInt8} {big : Bool} (h : Oth t c1 w big) : canonB t = (Lib.toLowerA [48, c1] ++ zeroOr (Lib.trimLeftB (Lib.toLowerA (plainL w)) 48) ++ (endB big).data.toList, 0) := by
  unfold canonB
  rw [h.read, if_pos rfl, if_pos rfl]
  unfold canonO
  rw [h.txt]
  rfl
theorem Oth.print {t : ByteArray} {c1 : UInt8} {w : List UInt8} {big : Bool} (h : Oth t c1 w big) : printB t = (48 :: Lib.lowerB c1 :: (w.map (caseP c1) ++ (endB big).data.toList), 0) := by
  unfold printB
  rw [h.read, if_pos rfl, if_pos rfl]
  unfold printO
  rw [casePL, h.txt]
  rfl
theorem printOk_oth (s : ByteArray) (ho : isOth s = true) (hr : (readB s).2 = true) : canonB ⟨(printB s).1.toArray⟩ = canonB s ∧ printB ⟨(printB s).1.toArray⟩ = printB s ∧ (printB s).1.length ≤ s.size + 1 := by
  obtain ⟨c1, w, big, h⟩ := Oth.of ho hr
  have hp := h.print
  have hc := h.canon
  obtain ⟨h32, h65⟩ := oth_byte c1 ⟨h.hb, h.h65⟩
  have ht : Oth (mkB (printB s).1) (Lib.lowerB c1) (w.map (caseP c1)) big := by
    refine ⟨by rw [mkB_list, hp], by rw [h32]; exact h.hb, h65, ?_, by simpa using h.ne⟩
    rw [h32, runN_map _ _ (caseP_D h.hb) (caseP_95 c1), List.length_map]
    exact h.run
  refine ⟨?_, ?_, ?_⟩
  · show canonB (mkB (printB s).1) = _
    rw [ht.canon, hc, plainL_map _ (caseP_95 c1)]
    have e1 : Lib.toLowerA ((plainL w).map (caseP c1)) = Lib.toLowerA (plainL w) := by
      unfold Lib.toLowerA
      rw [List.map_map]
      exact List.map_congr_left fun c _ => lower_caseP c1 c
    have e2 : Lib.toLowerA [48, Lib.lowerB c1] = Lib.toLowerA [48, c1] := by
      unfold Lib.toLowerA
      simp only [List.map_cons, List.map_nil, lower_lower]
    rw [e1, e2]
  · show printB (mkB (printB s).1) = _
    rw [ht.print, hp, List.map_map, lower_lower]
    have e1 : w.map (caseP (Lib.lowerB c1) ∘ caseP c1) = w.map (caseP c1) := List.map_congr_left fun c _ => caseP_caseP c1 _ c h32
    rw [e1]
  · rw [hp, ← ofl, h.txt]
    simp
end Go.Proofs.YthnchejhcmpipaaDoor
