/- Contracts of num.Longest and of the reader's number. Conditions as in ..LC. -/
import Derived.Test.YteejjkfmmhegmaaGreatDoorLD
namespace Go.Proofs.YteejjkfmmhegmaaGreatDoor
open Go.RowKit

/-- how long the longest number at a text's beginning is. -/
def longB (s : ByteArray) : Nat := if (scanB s).2.2 = true then s.size - (scanB s).2.1.size else 0
theorem scanB_size (s : ByteArray) : (scanB s).2.1.size ≤ s.size := by
  unfold scanB
  cases ho : isOth s with
  | true =>
    rw [if_pos rfl]
    unfold scanOth
    simp only
    have h1 := (runB_size (s.data.toList[1]!.toNat ||| 32) (s.extract 2 s.size)).1
    rw [ByteArray.size_extract] at h1
    have h2 : (Lib.trimPrefix (runB (s.data.toList[1]!.toNat ||| 32) (s.extract 2 s.size)).2.data.toList [110]).length ≤ (runB (s.data.toList[1]!.toNat ||| 32) (s.extract 2 s.size)).2.size := by
      unfold Lib.trimPrefix
      split
      · rw [List.length_drop, ofl]; omega
      · rw [ofl]; exact Nat.le_refl _
    generalize Lib.trimPrefix (runB (s.data.toList[1]!.toNat ||| 32) (s.extract 2 s.size)).2.data.toList [110] = l at *
    rw [← ofl]
    simp only
    omega
  | false =>
    rw [if_neg (by decide)]
    unfold scanDec
    have h1 := wholeO_size s
    have h2 := partO_size (wholeO s).2
    simp only
    split
    · simp only; omega
    · simp only
      have h3 := expL_size (lit10 (wholeO s).1 (partO (wholeO s).2).1 (partO (wholeO s).2).2.1) (partO (wholeO s).2).2.2
      have h4 : ∀ (x : Lit) (r : ByteArray), (bigL x r).2.size ≤ r.size := fun x r => by
        unfold bigL
        split
        · simp only [ByteArray.size_extract]; omega
        · exact Nat.le_refl _
      have h5 := h4 (expL (lit10 (wholeO s).1 (partO (wholeO s).2).1 (partO (wholeO s).2).2.1) (partO (wholeO s).2).2.2).1 (expL (lit10 (wholeO s).1 (partO (wholeO s).2).1 (partO (wholeO s).2).2.1) (partO (wholeO s).2).2.2).2
      omega
theorem longB_le (s : ByteArray) : longB s ≤ s.size := by unfold longB; split <;> omega
set_option maxRecDepth 20000 in
set_option maxHeartbeats 1000000 in
theorem longest_any (s : ByteArray) (w : World) (hs : s.size ≤ 16777216) (hM : MaxAt w) :
    Calls Tryz.prog 157 #[.string s] w fun e w' => e = .returned (.int .i64 (longB s : Nat)) ∧ Below w.heap.size w w' := by
  have hS := scan_any s w hs hM
  have hz := scanB_size s
  have hl : longB s = if (scanB s).2.2 = true then s.size - (scanB s).2.1.size else 0 := rfl
  generalize longB s = L at *
  generalize scanB s = q at *
  obtain ⟨x, r, f⟩ := q
  obtain ⟨base, whole, point, part, ex, minus, power, big⟩ := x
  unfold Lit.val Lit.cells at hS
  simp only at hS hz hl
  have HS := Lib.hid hS
  clear hS hM
  cases f with
  | true =>
    rw [if_pos rfl] at hl
    have HL := Lib.hid hl
    clear hl
    go_enter Tryz.func157, Tryz.ntmps157
    go_wp2_with (go_at_call 105; refine HS.out.mono ?_; rintro e w1 ⟨rfl, hb1⟩)
    go_ret
    refine ⟨?_, bel_alloc hb1 _⟩
    rw [HL.out]
    refine ret_int ?_
    omega
  | false =>
    rw [if_neg (by decide)] at hl
    have HL := Lib.hid hl
    clear hl
    go_enter Tryz.func157, Tryz.ntmps157
    go_wp2_with (go_at_call 105; refine HS.out.mono ?_; rintro e w1 ⟨rfl, hb1⟩)
    go_ret
    refine ⟨?_, bel_alloc hb1 _⟩
    rw [HL.out]
    rfl
def longL (l : List UInt8) : Nat := longB ⟨l.toArray⟩
/-- a number's length at a text's beginning; 0: none, or it goes on. -/
def numL (l : List UInt8) : Nat := if 0 < (nx (l.drop (longL l))).2 ∧ (startC (nx (l.drop (longL l))).1 = true ∨ digAt (l.drop (longL l)) = true) then 0 else longL l
theorem longL_le (l : List UInt8) : longL l ≤ l.length := longB_le ⟨l.toArray⟩
set_option maxRecDepth 20000 in
set_option maxHeartbeats 2000000 in
theorem number_bad (b : Nat) (s : ByteArray) (x : Rd) (w : World) (hx : RdAt w b s x) (hr : Ready b w) (hs : s.size ≤ 16777216) (hp : x.at' ≤ s.size) (hk : numL (s.data.toList.drop x.at') = 0) :
    Calls Tryz.prog 142 #[.pointer (some ⟨b, 0, none⟩)] w fun e w' => e = .returned (.bool false) ∧ RdAt w' b s { x with fail := x.at', code := 503 } ∧ But b w w' := by
  obtain ⟨p, line, fl, cd⟩ := x
  simp only at hp hk ⊢
  have hLo := fun W h => longest_any (s.extract p s.size) W (by rw [ByteArray.size_extract]; omega) h
  have hll : longB (s.extract p s.size) = longL (s.data.toList.drop p) := by unfold longL; rw [byteArray_ext (s.extract p s.size) (s.data.toList.drop p) (extract_drop s p)]
  rw [hll] at hLo
  have hle := longL_le (s.data.toList.drop p)
  rw [List.length_drop, ofl] at hle
  have hnum : numL (s.data.toList.drop p) = if 0 < (nx (s.data.toList.drop (p + longL (s.data.toList.drop p)))).2 ∧ (startC (nx (s.data.toList.drop (p + longL (s.data.toList.drop p)))).1 = true ∨ digAt (s.data.toList.drop (p + longL (s.data.toList.drop p))) = true) then 0 else longL (s.data.toList.drop p) := by
    unfold numL
    rw [List.drop_drop]
  have hNx := fun W h z hz => next_any s (p + longL (s.data.toList.drop p)) W (by omega) h z hz
  have hDg := fun W z hz => ldigit_any s (p + longL (s.data.toList.drop p)) W z hz
  generalize hm : longL (s.data.toList.drop p) = m at *
  generalize (nx (s.data.toList.drop (p + m))).1 = c at *
  generalize (nx (s.data.toList.drop (p + m))).2 = n at *
  have hSt := fun W => start_any c W
  generalize hdg : digAt (s.data.toList.drop (p + m)) = dg at *
  generalize hst : startC c = st at *
  generalize numL (s.data.toList.drop p) = k at *
  have HLo := Lib.hid hLo
  have HNx := Lib.hid hNx
  have HDg := Lib.hid hDg
  have HSt := Lib.hid hSt
  have HX := Lib.hid hx
  have HR := Lib.hid hr
  have hbl := hx.lt
  clear hLo hNx hDg hSt hx hr hll hm hdg hst
  have hcase : (m = 0 ∧ k = 0) ∨ (0 < m ∧ 0 < n ∧ st = true ∧ k = 0) ∨ (0 < m ∧ 0 < n ∧ st = false ∧ dg = true ∧ k = 0) ∨ (0 < m ∧ 0 < n ∧ st = false ∧ dg = false ∧ k = m) ∨ (0 < m ∧ n ≤ 0 ∧ k = m) := by
    by_cases hm0 : m = 0
    · subst hm0
      refine .inl ⟨rfl, ?_⟩
      rw [hnum]; split <;> rfl
    · by_cases hn0 : 0 < n
      · cases hst : st with
        | true => exact .inr (.inl ⟨by omega, hn0, rfl, by rw [hnum, if_pos ⟨hn0, .inl hst⟩]⟩)
        | false =>
          cases hdg : dg with
          | true => exact .inr (.inr (.inl ⟨by omega, hn0, rfl, rfl, by rw [hnum, if_pos ⟨hn0, .inr hdg⟩]⟩))
          | false => exact .inr (.inr (.inr (.inl ⟨by omega, hn0, rfl, rfl, by rw [hnum, if_neg]; rintro ⟨_, h | h⟩; exact absurd (hst.symm.trans h) (by decide); exact absurd (hdg.symm.trans h) (by decide)⟩)))
      · exact .inr (.inr (.inr (.inr ⟨by omega, by omega, by rw [hnum, if_neg (fun h => hn0 h.1)]⟩)))
  clear hnum
  rcases hcase with ⟨rfl, rfl⟩ | ⟨h1, h2, rfl, rfl⟩ | ⟨h1, h2, rfl, rfl, rfl⟩ | ⟨h1, h2, rfl, rfl, rfl⟩ | ⟨h1, h2, rfl⟩
  · clear hk
    obtain ⟨c0, c1, c2, c3, c4, f0, f1, f2, f3, f4⟩ := RdAt.facts HX.out
    go_enter Tryz.func142, Tryz.ntmps142
    go_upto_region 3 with (go_at_call 157; refine (HLo.out _ HR.out.max).mono ?_; rintro e w1 ⟨rfl, hb1⟩)
    have HX1 := Lib.hid (HX.out.bel hb1)
    have HR1 := Lib.hid (HR.out.next hbl hb1)
    have hB1 := But.of_below (b := b) hb1
    clear c0 c1 c2 c3 c4 f0 f1 f2 f3 f4 HX HR hb1
    obtain ⟨c0, c1, c2, c3, c4, f0, f1, f2, f3, f4⟩ := RdAt.facts HX1.out
    go_upto_region 4 with (go_at_call 156; refine (HNx.out _ HR1.out.tabs _ (by omega)).mono ?_; rintro e w2 ⟨rfl, hb2⟩)
    have HX2 := Lib.hid (HX1.out.bel hb2)
    have hB2 := hB1.bel hb2
    clear c0 c1 c2 c3 c4 f0 f1 f2 f3 f4 HX1 HR1 hB1 hb2
    obtain ⟨c0, c1, c2, c3, c4, f0, f1, f2, f3, f4⟩ := RdAt.facts HX2.out
    go_wp2_with (go_at_call 138; refine (stop_any b s _ _ _ _ HX2.out).mono ?_; rintro e w5 ⟨rfl, hx5, hb5⟩)
    go_ret
    exact ⟨rfl, hx5, hB2.trans hb5⟩
  · clear hk
    have hne : (((p : Nat) : Int) + ((m : Nat) : Int) == (p : Int)) = false := by rw [beq_eq_false_iff_ne]; omega
    obtain ⟨c0, c1, c2, c3, c4, f0, f1, f2, f3, f4⟩ := RdAt.facts HX.out
    go_enter Tryz.func142, Tryz.ntmps142
    go_upto_region 3 with (go_at_call 157; refine (HLo.out _ HR.out.max).mono ?_; rintro e w1 ⟨rfl, hb1⟩)
    have HX1 := Lib.hid (HX.out.bel hb1)
    have HR1 := Lib.hid (HR.out.next hbl hb1)
    have hB1 := But.of_below (b := b) hb1
    clear c0 c1 c2 c3 c4 f0 f1 f2 f3 f4 HX HR hb1
    obtain ⟨c0, c1, c2, c3, c4, f0, f1, f2, f3, f4⟩ := RdAt.facts HX1.out
    go_upto_region 4 with (go_at_call 156; refine (HNx.out _ HR1.out.tabs _ (by omega)).mono ?_; rintro e w2 ⟨rfl, hb2⟩)
    have HX2 := Lib.hid (HX1.out.bel hb2)
    have hB2 := hB1.bel hb2
    clear c0 c1 c2 c3 c4 f0 f1 f2 f3 f4 HX1 HR1 hB1 hb2
    obtain ⟨c0, c1, c2, c3, c4, f0, f1, f2, f3, f4⟩ := RdAt.facts HX2.out
    go_wp2_with (first | (go_at_call 72; refine (HSt.out _).mono ?_; rintro e w3 ⟨rfl, hb3⟩; have HX3 := Lib.hid (HX2.out.bel hb3); have hB3 := hB2.bel hb3; clear c0 c1 c2 c3 c4 f0 f1 f2 f3 f4; obtain ⟨c0, c1, c2, c3, c4, f0, f1, f2, f3, f4⟩ := RdAt.facts HX3.out) | (go_at_call 138; refine (stop_any b s _ _ _ _ HX3.out).mono ?_; rintro e w5 ⟨rfl, hx5, hb5⟩))
    go_ret
    exact ⟨rfl, hx5, hB3.trans hb5⟩
  · clear hk
    have hne : (((p : Nat) : Int) + ((m : Nat) : Int) == (p : Int)) = false := by rw [beq_eq_false_iff_ne]; omega
    obtain ⟨c0, c1, c2, c3, c4, f0, f1, f2, f3, f4⟩ := RdAt.facts HX.out
    go_enter Tryz.func142, Tryz.ntmps142
    go_upto_region 3 with (go_at_call 157; refine (HLo.out _ HR.out.max).mono ?_; rintro e w1 ⟨rfl, hb1⟩)
    have HX1 := Lib.hid (HX.out.bel hb1)
    have HR1 := Lib.hid (HR.out.next hbl hb1)
    have hB1 := But.of_below (b := b) hb1
    clear c0 c1 c2 c3 c4 f0 f1 f2 f3 f4 HX HR hb1
    obtain ⟨c0, c1, c2, c3, c4, f0, f1, f2, f3, f4⟩ := RdAt.facts HX1.out
    go_upto_region 4 with (go_at_call 156; refine (HNx.out _ HR1.out.tabs _ (by omega)).mono ?_; rintro e w2 ⟨rfl, hb2⟩)
    have HX2 := Lib.hid (HX1.out.bel hb2)
    have hB2 := hB1.bel hb2
    clear c0 c1 c2 c3 c4 f0 f1 f2 f3 f4 HX1 HR1 hB1 hb2
    obtain ⟨c0, c1, c2, c3, c4, f0, f1, f2, f3, f4⟩ := RdAt.facts HX2.out
    go_wp2_with (first | (go_at_call 72; refine (HSt.out _).mono ?_; rintro e w3 ⟨rfl, hb3⟩; have HX3 := Lib.hid (HX2.out.bel hb3); have hB3 := hB2.bel hb3; clear c0 c1 c2 c3 c4 f0 f1 f2 f3 f4; obtain ⟨c0, c1, c2, c3, c4, f0, f1, f2, f3, f4⟩ := RdAt.facts HX3.out) | (go_at_call 141; refine (HDg.out _ _ (by omega)).mono ?_; rintro e w4 ⟨rfl, rfl⟩) | (go_at_call 138; refine (stop_any b s _ _ _ _ HX3.out).mono ?_; rintro e w5 ⟨rfl, hx5, hb5⟩))
    go_ret
    exact ⟨rfl, hx5, hB3.trans hb5⟩
  · omega
  · omega
set_option maxRecDepth 20000 in
set_option maxHeartbeats 2000000 in
theorem number_good (b : Nat) (s : ByteArray) (x : Rd) (w : World) (hx : RdAt w b s x) (hr : Ready b w) (hs : s.size ≤ 16777216) (hp : x.at' ≤ s.size) (hk : 0 < numL (s.data.toList.drop x.at')) :
    Calls Tryz.prog 142 #[.pointer (some ⟨b, 0, none⟩)] w fun e w' => e = .returned (.bool true) ∧ RdAt w' b s { x with at' := x.at' + numL (s.data.toList.drop x.at') } ∧ But b w w' := by
  obtain ⟨p, line, fl, cd⟩ := x
  simp only at hp hk ⊢
  have hLo := fun W h => longest_any (s.extract p s.size) W (by rw [ByteArray.size_extract]; omega) h
  have hll : longB (s.extract p s.size) = longL (s.data.toList.drop p) := by unfold longL; rw [byteArray_ext (s.extract p s.size) (s.data.toList.drop p) (extract_drop s p)]
  rw [hll] at hLo
  have hle := longL_le (s.data.toList.drop p)
  rw [List.length_drop, ofl] at hle
  have hnum : numL (s.data.toList.drop p) = if 0 < (nx (s.data.toList.drop (p + longL (s.data.toList.drop p)))).2 ∧ (startC (nx (s.data.toList.drop (p + longL (s.data.toList.drop p)))).1 = true ∨ digAt (s.data.toList.drop (p + longL (s.data.toList.drop p))) = true) then 0 else longL (s.data.toList.drop p) := by
    unfold numL
    rw [List.drop_drop]
  have hNx := fun W h z hz => next_any s (p + longL (s.data.toList.drop p)) W (by omega) h z hz
  have hDg := fun W z hz => ldigit_any s (p + longL (s.data.toList.drop p)) W z hz
  generalize hm : longL (s.data.toList.drop p) = m at *
  generalize (nx (s.data.toList.drop (p + m))).1 = c at *
  generalize (nx (s.data.toList.drop (p + m))).2 = n at *
  have hSt := fun W => start_any c W
  generalize hdg : digAt (s.data.toList.drop (p + m)) = dg at *
  generalize hst : startC c = st at *
  generalize numL (s.data.toList.drop p) = k at *
  have HLo := Lib.hid hLo
  have HNx := Lib.hid hNx
  have HDg := Lib.hid hDg
  have HSt := Lib.hid hSt
  have HX := Lib.hid hx
  have HR := Lib.hid hr
  have hbl := hx.lt
  clear hLo hNx hDg hSt hx hr hll hm hdg hst
  have hcase : (m = 0 ∧ k = 0) ∨ (0 < m ∧ 0 < n ∧ st = true ∧ k = 0) ∨ (0 < m ∧ 0 < n ∧ st = false ∧ dg = true ∧ k = 0) ∨ (0 < m ∧ 0 < n ∧ st = false ∧ dg = false ∧ k = m) ∨ (0 < m ∧ n ≤ 0 ∧ k = m) := by
    by_cases hm0 : m = 0
    · subst hm0
      refine .inl ⟨rfl, ?_⟩
      rw [hnum]; split <;> rfl
    · by_cases hn0 : 0 < n
      · cases hst : st with
        | true => exact .inr (.inl ⟨by omega, hn0, rfl, by rw [hnum, if_pos ⟨hn0, .inl hst⟩]⟩)
        | false =>
          cases hdg : dg with
          | true => exact .inr (.inr (.inl ⟨by omega, hn0, rfl, rfl, by rw [hnum, if_pos ⟨hn0, .inr hdg⟩]⟩))
          | false => exact .inr (.inr (.inr (.inl ⟨by omega, hn0, rfl, rfl, by rw [hnum, if_neg]; rintro ⟨_, h | h⟩; exact absurd (hst.symm.trans h) (by decide); exact absurd (hdg.symm.trans h) (by decide)⟩)))
      · exact .inr (.inr (.inr (.inr ⟨by omega, by omega, by rw [hnum, if_neg (fun h => hn0 h.1)]⟩)))
  clear hnum
  rcases hcase with ⟨rfl, rfl⟩ | ⟨h1, h2, rfl, rfl⟩ | ⟨h1, h2, rfl, rfl, rfl⟩ | ⟨h1, h2, rfl, rfl, rfl⟩ | ⟨h1, h2, rfl⟩
  · omega
  · omega
  · omega
  · clear hk
    have hne : (((p : Nat) : Int) + ((k : Nat) : Int) == (p : Int)) = false := by rw [beq_eq_false_iff_ne]; omega
    obtain ⟨c0, c1, c2, c3, c4, f0, f1, f2, f3, f4⟩ := RdAt.facts HX.out
    go_enter Tryz.func142, Tryz.ntmps142
    go_upto_region 3 with (go_at_call 157; refine (HLo.out _ HR.out.max).mono ?_; rintro e w1 ⟨rfl, hb1⟩)
    have HX1 := Lib.hid (HX.out.bel hb1)
    have HR1 := Lib.hid (HR.out.next hbl hb1)
    have hB1 := But.of_below (b := b) hb1
    clear c0 c1 c2 c3 c4 f0 f1 f2 f3 f4 HX HR hb1
    obtain ⟨c0, c1, c2, c3, c4, f0, f1, f2, f3, f4⟩ := RdAt.facts HX1.out
    go_upto_region 4 with (go_at_call 156; refine (HNx.out _ HR1.out.tabs _ (by omega)).mono ?_; rintro e w2 ⟨rfl, hb2⟩)
    have HX2 := Lib.hid (HX1.out.bel hb2)
    have hB2 := hB1.bel hb2
    clear c0 c1 c2 c3 c4 f0 f1 f2 f3 f4 HX1 HR1 hB1 hb2
    obtain ⟨c0, c1, c2, c3, c4, f0, f1, f2, f3, f4⟩ := RdAt.facts HX2.out
    go_wp2_with (first | (go_at_call 72; refine (HSt.out _).mono ?_; rintro e w3 ⟨rfl, hb3⟩; have HX3 := Lib.hid (HX2.out.bel hb3); have hB3 := hB2.bel hb3; clear c0 c1 c2 c3 c4 f0 f1 f2 f3 f4; obtain ⟨c0, c1, c2, c3, c4, f0, f1, f2, f3, f4⟩ := RdAt.facts HX3.out) | (go_at_call 141; refine (HDg.out _ _ (by omega)).mono ?_; rintro e w4 ⟨rfl, rfl⟩))
    go_ret
    exact ⟨rfl, RdAt.set (x := ⟨p, line, fl, cd⟩) HX3.out 0 _ rfl, hB3.setCell 0 _⟩
  · clear hk
    have hne : (((p : Nat) : Int) + ((k : Nat) : Int) == (p : Int)) = false := by rw [beq_eq_false_iff_ne]; omega
    obtain ⟨c0, c1, c2, c3, c4, f0, f1, f2, f3, f4⟩ := RdAt.facts HX.out
    go_enter Tryz.func142, Tryz.ntmps142
    go_upto_region 3 with (go_at_call 157; refine (HLo.out _ HR.out.max).mono ?_; rintro e w1 ⟨rfl, hb1⟩)
    have HX1 := Lib.hid (HX.out.bel hb1)
    have HR1 := Lib.hid (HR.out.next hbl hb1)
    have hB1 := But.of_below (b := b) hb1
    clear c0 c1 c2 c3 c4 f0 f1 f2 f3 f4 HX HR hb1
    obtain ⟨c0, c1, c2, c3, c4, f0, f1, f2, f3, f4⟩ := RdAt.facts HX1.out
    go_upto_region 4 with (go_at_call 156; refine (HNx.out _ HR1.out.tabs _ (by omega)).mono ?_; rintro e w2 ⟨rfl, hb2⟩)
    have HX2 := Lib.hid (HX1.out.bel hb2)
    have hB2 := hB1.bel hb2
    clear c0 c1 c2 c3 c4 f0 f1 f2 f3 f4 HX1 HR1 hB1 hb2
    obtain ⟨c0, c1, c2, c3, c4, f0, f1, f2, f3, f4⟩ := RdAt.facts HX2.out
    go_wp2_with fail
    go_ret
    exact ⟨rfl, RdAt.set (x := ⟨p, line, fl, cd⟩) HX2.out 0 _ rfl, hB2.setCell 0 _⟩
end Go.Proofs.YteejjkfmmhegmaaGreatDoor
