/- Contract of the reference's radix: what it answers is what package num's read gives. Conditions: at most 2^24 bytes; the text begins with nought and the base's letter. -/
import Derived.Test.YthnchejhcmpipaaDoorRC
import Derived.Test.YthnchejhcmpipaaDoorRP
namespace Go.Proofs.YthnchejhcmpipaaDoor
open Go.RowKit

/-- the base of a number, by its letter. -/
def letNum (β : Nat) : Nat := if β = 120 then 16 else if β = 111 then 8 else if β = 98 then 2 else 10
def baseOf (s : ByteArray) : Nat := if isOth s = true then letNum (s.data.toList[1]!.toNat ||| 32) else 10
/-- what Of must answer. -/
structure RefOk (s : ByteArray) (P : Lit) (fine : Bool) : Prop where
  ok : fine = (readB s).2
  same : fine = true → P = { (readB s).1 with base := baseOf s }
theorem refOk_no {s : ByteArray} {P : Lit} (h : (readB s).2 = false) : RefOk s P false := ⟨h.symm, fun h => by cases h⟩
/-- nought, a letter, and no digits. -/
theorem oth_none {s : ByteArray} {c1 : UInt8} {r : List UInt8} (hs : s.data.toList = 48 :: c1 :: r) (hb : (c1.toNat ||| 32) = 120 ∨ (c1.toNat ||| 32) = 111 ∨ (c1.toNat ||| 32) = 98) (h65 : 65 ≤ c1.toNat) (hr : runZ (c1.toNat ||| 32) r < 1) : (readB s).2 = false := by
  have e := mkB_of hs
  rw [e]
  by_cases hne : r = []
  · subst hne
    have hno : isOth (mkB [48, c1]) = false := by unfold isOth; rw [dif_neg (by rw [mkB_size]; simp)]
    have hw : wholeO (mkB [48, c1]) = (⟨#[48]⟩, mkB [c1]) := by
      unfold wholeO
      rw [mkB_list, hasPrefix_cons, if_pos (by decide), mkB_tail]
    have hc := all_bytes (P := fun c => ((c.toNat ||| 32) = 120 ∨ (c.toNat ||| 32) = 111 ∨ (c.toNat ||| 32) = 98) → c ≠ 46 ∧ (c.toNat ||| 32) ≠ 101 ∧ c ≠ 110) (by decide +kernel) c1 hb
    have h : DecS (mkB [48, c1]) ⟨#[48]⟩ [c1] false emp [c1] := ⟨hno, hw, partO_none (fun t e => hc.1 (List.cons.inj e).1)⟩
    rw [dec_noexp h (.inl (by decide)) (fun c t e => by rw [← (List.cons.inj e).1]; exact ⟨hc.2.1, fun _ => hc.2.2⟩)]
    rfl
  · by_cases hz : 0 ≤ runZ (c1.toNat ||| 32) r
    · obtain ⟨h1, _⟩ := runZ_good hz
      exact oth_edge hb h65 hne (.inl (by omega))
    · obtain ⟨t, ht⟩ := runZ_bad (show runZ (c1.toNat ||| 32) r < 0 by omega)
      have ho : isOth (mkB (48 :: c1 :: r)) = true := isOth_parts _ c1 r false (by rw [mkB_list]; simp [endB]) hb h65 hne
      have hsc : scanB (mkB (48 :: c1 :: r)) = scanOth (mkB (48 :: c1 :: r)) := by unfold scanB; rw [if_pos ho]
      have hD : ((mkB (48 :: c1 :: r)).extract 2 (mkB (48 :: c1 :: r)).size).data.toList = r := by rw [extract_drop]; rfl
      have h1 : (mkB (48 :: c1 :: r)).data.toList[1]! = c1 := rfl
      unfold readB
      rw [hsc]
      unfold scanOth runB
      simp only [h1, hD, extract_drop, ht]
      have e2 : Lib.trimPrefix (95 :: t) [110] = 95 :: t := by
        unfold Lib.trimPrefix
        rw [hasPrefix_cons, if_neg (by decide)]
      rw [e2]
      have : (ByteArray.mk (95 :: t).toArray).toList.isEmpty = false := mk_empty (95 :: t)
      rw [this, Bool.and_false]
theorem oth_some {s : ByteArray} {c1 : UInt8} {r : List UInt8} (hs : s.data.toList = 48 :: c1 :: r) (hb : (c1.toNat ||| 32) = 120 ∨ (c1.toNat ||| 32) = 111 ∨ (c1.toNat ||| 32) = 98) (h65 : 65 ≤ c1.toNat) (hr : 1 ≤ runZ (c1.toNat ||| 32) r) :
    readB s = (⟨16, mkB (r.take (runN (c1.toNat ||| 32) false r)), false, emp, false, false, emp, Lib.hasPrefix (r.drop (runN (c1.toNat ||| 32) false r)) [110]⟩, (Lib.trimPrefix (r.drop (runN (c1.toNat ||| 32) false r)) [110]).isEmpty) ∧ baseOf s = letNum (c1.toNat ||| 32) := by
  have e := mkB_of hs
  obtain ⟨h1, _⟩ := runZ_good (show 0 ≤ runZ (c1.toNat ||| 32) r by omega)
  have hne : r ≠ [] := fun e => by subst e; rw [h1, show runN (c1.toNat ||| 32) false [] = 0 from rfl] at hr; omega
  have ho : isOth (mkB (48 :: c1 :: r)) = true := isOth_parts _ c1 r false (by rw [mkB_list]; simp [endB]) hb h65 hne
  have hsc : scanB (mkB (48 :: c1 :: r)) = scanOth (mkB (48 :: c1 :: r)) := by unfold scanB; rw [if_pos ho]
  have hD : (mkB (48 :: c1 :: r)).extract 2 (mkB (48 :: c1 :: r)).size = mkB r := mkB_of (by rw [extract_drop]; rfl)
  have hc : (mkB (48 :: c1 :: r)).data.toList[1]! = c1 := rfl
  have hle := runN_le (c1.toNat ||| 32) false r
  have hrun : runB (c1.toNat ||| 32) (mkB r) = (mkB (r.take (runN (c1.toNat ||| 32) false r)), mkB (r.drop (runN (c1.toNat ||| 32) false r))) := by
    unfold runB
    exact Prod.ext (mkB_of (extract_take _ _)) (mkB_of (extract_drop _ _))
  rw [e]
  refine ⟨?_, ?_⟩
  · unfold readB
    rw [hsc]
    unfold scanOth
    simp only [hc, hD, hrun]
    simp only [mkB_list]
    have hp : 0 < (mkB (r.take (runN (c1.toNat ||| 32) false r))).size := by
      rw [mkB_size, List.length_take]
      omega
    rw [decide_eq_true hp, Bool.true_and]
    exact Prod.ext rfl (mk_empty _)
  · unfold baseOf
    rw [if_pos ho]
    rfl
theorem tail_n {l : List UInt8} : Lib.hasPrefix l [110] = true ∧ (Lib.trimPrefix l [110]).isEmpty = true ↔ l = [110] := by
  constructor
  · rintro ⟨h1, h2⟩
    obtain ⟨t, rfl⟩ := hasPrefix_one h1
    unfold Lib.trimPrefix at h2
    rw [if_pos h1] at h2
    have : t = [] := by simpa using h2
    rw [this]
  · rintro rfl
    exact ⟨rfl, rfl⟩
theorem tail_none {l : List UInt8} (h : l ≠ [110]) : (Lib.trimPrefix l [110]).isEmpty = l.isEmpty := by
  unfold Lib.trimPrefix
  by_cases h1 : Lib.hasPrefix l [110] = true
  · rw [if_pos h1]
    obtain ⟨t, rfl⟩ := hasPrefix_one h1
    cases t with
    | nil => exact absurd rfl h
    | cons c t => rfl
  · rw [if_neg h1]
/-- a positive answer. -/
theorem oth_ref {s : ByteArray} {c1 : UInt8} {r : List UInt8} (hs : s.data.toList = 48 :: c1 :: r) (hb : (c1.toNat ||| 32) = 120 ∨ (c1.toNat ||| 32) = 111 ∨ (c1.toNat ||| 32) = 98) (h65 : 65 ≤ c1.toNat) (hr : 1 ≤ runZ (c1.toNat ||| 32) r) (big ok : Bool) (hbig : big = true ↔ r.drop (runN (c1.toNat ||| 32) false r) = [110]) (hok : ok = (big || (r.drop (runN (c1.toNat ||| 32) false r)).isEmpty)) :
    RefOk s ⟨letNum (c1.toNat ||| 32), mkB (r.take (runN (c1.toNat ||| 32) false r)), false, emp, false, false, emp, big⟩ ok := by
  obtain ⟨h1, h2⟩ := oth_some hs hb h65 hr
  generalize r.drop (runN (c1.toNat ||| 32) false r) = l at *
  by_cases e : l = [110]
  · have hb1 := hbig.2 e
    subst e
    subst hb1
    refine ⟨by rw [h1, hok]; rfl, fun _ => ?_⟩
    rw [h1, h2]
    rfl
  · have hb0 : big = false := by cases hb : big with
      | false => rfl
      | true => exact absurd (hbig.1 hb) e
    subst hb0
    rw [tail_none e] at h1
    refine ⟨by rw [h1, hok]; rfl, fun h => ?_⟩
    rw [hok, Bool.false_or, List.isEmpty_iff] at h
    subst h
    rw [h1, h2]
    rfl
def par0 (b : Nat) : Lit := ⟨b, emp, false, emp, false, false, emp, false⟩
set_option maxRecDepth 100000 in
set_option maxHeartbeats 1000000 in
theorem radix_any (s : ByteArray) (b β : Nat) (c1 : UInt8) (r : List UInt8) (w : World) (hB : BaseOk b β) (hl : letNum β = b) (hb : β = 120 ∨ β = 111 ∨ β = 98) (hc : (c1.toNat ||| 32) = β) (h65 : 65 ≤ c1.toNat) (hss : s.data.toList = 48 :: c1 :: r) (hs : s.size ≤ 16777216) :
    Calls Tryd.prog 50 #[.string s, .int .i64 b] w fun e w' => ∃ P ok, RefOk s P ok ∧ e = .returned (.tuple #[P.val, .bool ok]) ∧ Below w.heap.size w w' := by
  subst hc
  have hsz : s.size = r.length + 2 := by rw [← ofl, hss]; rfl
  have hr := fun W => runz_any s 2 b _ W hB (by omega) hs 2 rfl
  have hd : s.data.toList.drop 2 = r := by rw [hss]; rfl
  rw [hd] at hr
  have hle := runN_le (c1.toNat ||| 32) false r
  by_cases hz : runZ (c1.toNat ||| 32) r < 1
  · have HN := Lib.hid (oth_none hss hb h65 hz)
    have HR := Lib.hid hr
    generalize runZ (c1.toNat ||| 32) r = z at *
    clear hr hd hss hB
    go_enter Tryd.func50, Tryd.ntmps50
    go_upto_region 1 with fail
    have hZ : ParAt (w.alloc (.cells litZ.cells 49)) w.heap.size litZ := heap_alloc_new _ _
    have hB0 : Below w.heap.size w (w.alloc (.cells litZ.cells 49)) := (Below.refl _ _).alloc (Nat.le_refl _) _
    have e0 : (w.alloc (.cells litZ.cells 49)) = w.alloc (.cells #[.int .i64 0, .string ⟨#[]⟩, .bool false, .string ⟨#[]⟩, .bool false, .bool false, .string ⟨#[]⟩, .bool false] 49) := rfl
    rw [e0] at hZ hB0
    generalize w.alloc (.cells #[.int .i64 0, .string ⟨#[]⟩, .bool false, .string ⟨#[]⟩, .bool false, .bool false, .string ⟨#[]⟩, .bool false] 49) = w0 at *
    go_upto_region 3 with (go_at_call 51; refine (HR.out _).mono ?_; rintro e w1 ⟨rfl, rfl⟩)
    have hP : ParAt (w0.alloc (.cells (par0 b).cells 49)) w0.heap.size (par0 b) := heap_alloc_new _ _
    have hB1 : Below w0.heap.size w0 (w0.alloc (.cells (par0 b).cells 49)) := (Below.refl _ _).alloc (Nat.le_refl _) _
    have e1 : (w0.alloc (.cells (par0 b).cells 49)) = w0.alloc (.cells #[.int .i64 b, .string ⟨#[]⟩, .bool false, .string ⟨#[]⟩, .bool false, .bool false, .string ⟨#[]⟩, .bool false] 49) := rfl
    rw [e1] at hP hB1
    have hZ1 := hZ.below hB1 hZ.lt
    have hlt : w.heap.size < w0.heap.size := hZ.lt
    have hB2 := hB0.trans (hB1.mono hB0.size)
    generalize w0.alloc (.cells #[.int .i64 b, .string ⟨#[]⟩, .bool false, .string ⟨#[]⟩, .bool false, .bool false, .string ⟨#[]⟩, .bool false] 49) = w1 at *
    generalize w0.heap.size = bp at *
    clear e0 e1 hZ hB0 hB1 HR
    obtain ⟨c0, c1, c2, c3, c4, c5, c6, c7, f0, f1, f2, f3, f4, f5, f6, f7⟩ := ParAt.facts hP
    obtain ⟨d0, d1, d2, d3, d4, d5, d6, d7, g0, g1, g2, g3, g4, g5, g6, g7⟩ := ParAt.facts hZ1
    have HZ := Lib.hid hZ1
    have HP := Lib.hid hP
    clear hP hZ1
    go_wp2_with fail
    (try simp only [Exit.inBlock, Exit.then])
    refine bodyPost_ret (results_par2 rfl _ _ _ _ rfl (ParAt.lay HZ.out)) rfl ?_
    exact ⟨_, _, refOk_no HN.out, rfl, below_again hB2 (Nat.le_refl _)⟩
  · obtain ⟨hz1, hz2⟩ := runZ_good (show 0 ≤ runZ (c1.toNat ||| 32) r by omega)
    have hF := fun big ok => oth_ref hss hb h65 (by omega) big ok
    have hget : ∀ j (h : j + 2 < s.size), r[j]? = some s[j + 2] := fun j h => by
      have := get_data s (j + 2) h
      rw [hss] at this
      exact this
    rw [hz1] at hr hz
    have HR := Lib.hid hr
    have HF := Lib.hid hF
    have HG := Lib.hid hget
    clear hr hd hB hz1 hz2 hF hget
    generalize runN (c1.toNat ||| 32) false r = n at *
    have hn1 : 1 ≤ n := by omega
    have hns : n + 2 ≤ s.size := by omega
    have HS := Lib.hid (show s.extract 2 (2 + n) = mkB (r.take n) from mkB_of (by rw [Lib.extract_data, hss]; show List.take (2 + n - 2) r = _; rw [show 2 + n - 2 = n by omega]))
    have hbb : (∃ h : 2 + n < s.size, s.size = n + 3 ∧ (((s[2 + n].toNat : Nat) : Int) == 110) = true ∧ r.drop n = [110]) ∨ (s.size ≠ n + 3 ∧ r.drop n ≠ [110] ∧ ((r.drop n).isEmpty = decide (s.size = n + 2))) ∨ (∃ h : 2 + n < s.size, s.size = n + 3 ∧ (((s[2 + n].toNat : Nat) : Int) == 110) = false ∧ r.drop n ≠ [110] ∧ (r.drop n).isEmpty = false) := by
      have hdl : (r.drop n).length = s.size - (n + 2) := by rw [List.length_drop]; omega
      by_cases h3 : s.size = n + 3
      · have hlt : 2 + n < s.size := by omega
        have hg : r[n]? = some s[2 + n] := by rw [HG.out n (by omega)]; simp only [Nat.add_comm]
        have hd1 : r.drop n = [s[2 + n]] := by
          obtain ⟨h4, h5⟩ := List.getElem?_eq_some_iff.1 hg
          rw [List.drop_eq_getElem_cons h4, h5, List.drop_of_length_le (by omega)]
        by_cases h110 : s[2 + n] = 110
        · exact .inl ⟨hlt, h3, eq_fact h110, by rw [hd1, h110]⟩
        · exact .inr (.inr ⟨hlt, h3, ne_fact h110, by rw [hd1]; exact fun e => h110 (List.cons.inj e).1, by rw [hd1]; rfl⟩)
      · refine .inr (.inl ⟨h3, fun e => ?_, ?_⟩)
        · rw [e] at hdl; simp at hdl; omega
        · by_cases h2 : s.size = n + 2
          · have : r.drop n = [] := List.length_eq_zero_iff.1 (by omega)
            rw [this, decide_eq_true h2]; rfl
          · rw [decide_eq_false h2]
            cases hl : r.drop n with
            | nil => rw [hl] at hdl; simp at hdl; omega
            | cons a t => rfl
    clear hss HG hz
    rcases hbb with ⟨hlt2, h3, b1, hdr⟩ | ⟨h3, hdr, hem⟩ | ⟨hlt2, h3, b1, hdr, hem⟩
    · have HO := Lib.hid (HF.out true true (by simp [hdr]) (by simp))
      rw [hl, ← HS.out] at HO
      clear hdr HF
      have h4 : ((s.size : Int) == 3 + (n : Int)) = true := by rw [beq_iff_eq]; omega
      go_enter Tryd.func50, Tryd.ntmps50
      go_upto_region 1 with fail
      have hZ : ParAt (w.alloc (.cells litZ.cells 49)) w.heap.size litZ := heap_alloc_new _ _
      have hB0 : Below w.heap.size w (w.alloc (.cells litZ.cells 49)) := (Below.refl _ _).alloc (Nat.le_refl _) _
      have e0 : (w.alloc (.cells litZ.cells 49)) = w.alloc (.cells #[.int .i64 0, .string ⟨#[]⟩, .bool false, .string ⟨#[]⟩, .bool false, .bool false, .string ⟨#[]⟩, .bool false] 49) := rfl
      rw [e0] at hZ hB0
      generalize w.alloc (.cells #[.int .i64 0, .string ⟨#[]⟩, .bool false, .string ⟨#[]⟩, .bool false, .bool false, .string ⟨#[]⟩, .bool false] 49) = w0 at *
      go_upto_region 3 with (go_at_call 51; refine (HR.out _).mono ?_; rintro e w1 ⟨rfl, rfl⟩)
      have hP : ParAt (w0.alloc (.cells (par0 b).cells 49)) w0.heap.size (par0 b) := heap_alloc_new _ _
      have hB1 : Below w0.heap.size w0 (w0.alloc (.cells (par0 b).cells 49)) := (Below.refl _ _).alloc (Nat.le_refl _) _
      have e1 : (w0.alloc (.cells (par0 b).cells 49)) = w0.alloc (.cells #[.int .i64 b, .string ⟨#[]⟩, .bool false, .string ⟨#[]⟩, .bool false, .bool false, .string ⟨#[]⟩, .bool false] 49) := rfl
      rw [e1] at hP hB1
      have hZ1 := hZ.below hB1 hZ.lt
      have hlt : w.heap.size < w0.heap.size := hZ.lt
      have hB2 := hB0.trans (hB1.mono hB0.size)
      generalize w0.alloc (.cells #[.int .i64 b, .string ⟨#[]⟩, .bool false, .string ⟨#[]⟩, .bool false, .bool false, .string ⟨#[]⟩, .bool false] 49) = w1 at *
      generalize w0.heap.size = bp at *
      clear e0 e1 hZ hB0 hB1 HR
      obtain ⟨c0, c1, c2, c3, c4, c5, c6, c7, f0, f1, f2, f3, f4, f5, f6, f7⟩ := ParAt.facts hP
      obtain ⟨d0, d1, d2, d3, d4, d5, d6, d7, g0, g1, g2, g3, g4, g5, g6, g7⟩ := ParAt.facts hZ1
      have HZ := Lib.hid hZ1
      have HP := Lib.hid hP
      clear hP hZ1
      go_upto_region 6 with fail
      have hP2 := ParAt.set (y := ⟨b, s.extract 2 (2 + n), false, emp, false, false, emp, false⟩) HP.out 1 (.string (s.extract 2 (2 + n))) rfl
      have hZ2 := ParAt.below HZ.out ((Below.refl bp w1).setCell (p := ⟨bp, 1, none⟩) (Nat.le_refl _) (.string (s.extract 2 (2 + n)))) hlt
      have hB3 := hB2.setCell (p := ⟨bp, 1, none⟩) (Nat.le_of_lt hlt) (.string (s.extract 2 (2 + n)))
      clear c0 c1 c2 c3 c4 c5 c6 c7 f0 f1 f2 f3 f4 f5 f6 f7 d0 d1 d2 d3 d4 d5 d6 d7 g0 g1 g2 g3 g4 g5 g6 g7 HZ HP
      generalize w1.setCell ⟨bp, 1, none⟩ (.string (s.extract 2 (2 + n))) = w2 at *
      obtain ⟨c0, c1, c2, c3, c4, c5, c6, c7, f0, f1, f2, f3, f4, f5, f6, f7⟩ := ParAt.facts hP2
      have HP := Lib.hid hP2
      clear hP2
      go_upto_region 7 with fail
      have hP3 := ParAt.set (y := ⟨b, s.extract 2 (2 + n), false, emp, false, false, emp, true⟩) HP.out 7 (.bool true) rfl
      have hZ3 := ParAt.below hZ2 ((Below.refl bp w2).setCell (p := ⟨bp, 7, none⟩) (Nat.le_refl _) (.bool true)) hlt
      have hB4 := hB3.setCell (p := ⟨bp, 7, none⟩) (Nat.le_of_lt hlt) (.bool true)
      clear c0 c1 c2 c3 c4 c5 c6 c7 f0 f1 f2 f3 f4 f5 f6 f7 HP hZ2 hB3
      generalize w2.setCell ⟨bp, 7, none⟩ (.bool true) = w3 at *
      obtain ⟨c0, c1, c2, c3, c4, c5, c6, c7, f0, f1, f2, f3, f4, f5, f6, f7⟩ := ParAt.facts hP3
      obtain ⟨d0, d1, d2, d3, d4, d5, d6, d7, g0, g1, g2, g3, g4, g5, g6, g7⟩ := ParAt.facts hZ3
      have HZ := Lib.hid hZ3
      clear hP3 hZ3
      go_wp2_with fail
      (try simp only [Exit.inBlock, Exit.then])
      refine bodyPost_ret (results_par2 rfl _ _ _ _ rfl (ParAt.lay HZ.out)) rfl ?_
      exact ⟨_, _, HO.out, rfl, below_again hB4 (Nat.le_refl _)⟩
    · have HO := Lib.hid (HF.out false (decide (s.size = n + 2)) (by simp [hdr]) (by simp [hem]))
      rw [hl, ← HS.out] at HO
      clear hdr HF hem
      have h4 : ((s.size : Int) == 3 + (n : Int)) = false := by rw [beq_eq_false_iff_ne]; omega
      have h5 : ((s.size : Int) == 2 + (n : Int)) = decide (s.size = n + 2) := by
        by_cases e : s.size = n + 2
        · rw [decide_eq_true e, beq_iff_eq]; omega
        · rw [decide_eq_false e, beq_eq_false_iff_ne]; omega
      go_enter Tryd.func50, Tryd.ntmps50
      go_upto_region 1 with fail
      have hZ : ParAt (w.alloc (.cells litZ.cells 49)) w.heap.size litZ := heap_alloc_new _ _
      have hB0 : Below w.heap.size w (w.alloc (.cells litZ.cells 49)) := (Below.refl _ _).alloc (Nat.le_refl _) _
      have e0 : (w.alloc (.cells litZ.cells 49)) = w.alloc (.cells #[.int .i64 0, .string ⟨#[]⟩, .bool false, .string ⟨#[]⟩, .bool false, .bool false, .string ⟨#[]⟩, .bool false] 49) := rfl
      rw [e0] at hZ hB0
      generalize w.alloc (.cells #[.int .i64 0, .string ⟨#[]⟩, .bool false, .string ⟨#[]⟩, .bool false, .bool false, .string ⟨#[]⟩, .bool false] 49) = w0 at *
      go_upto_region 3 with (go_at_call 51; refine (HR.out _).mono ?_; rintro e w1 ⟨rfl, rfl⟩)
      have hP : ParAt (w0.alloc (.cells (par0 b).cells 49)) w0.heap.size (par0 b) := heap_alloc_new _ _
      have hB1 : Below w0.heap.size w0 (w0.alloc (.cells (par0 b).cells 49)) := (Below.refl _ _).alloc (Nat.le_refl _) _
      have e1 : (w0.alloc (.cells (par0 b).cells 49)) = w0.alloc (.cells #[.int .i64 b, .string ⟨#[]⟩, .bool false, .string ⟨#[]⟩, .bool false, .bool false, .string ⟨#[]⟩, .bool false] 49) := rfl
      rw [e1] at hP hB1
      have hZ1 := hZ.below hB1 hZ.lt
      have hlt : w.heap.size < w0.heap.size := hZ.lt
      have hB2 := hB0.trans (hB1.mono hB0.size)
      generalize w0.alloc (.cells #[.int .i64 b, .string ⟨#[]⟩, .bool false, .string ⟨#[]⟩, .bool false, .bool false, .string ⟨#[]⟩, .bool false] 49) = w1 at *
      generalize w0.heap.size = bp at *
      clear e0 e1 hZ hB0 hB1 HR
      obtain ⟨c0, c1, c2, c3, c4, c5, c6, c7, f0, f1, f2, f3, f4, f5, f6, f7⟩ := ParAt.facts hP
      obtain ⟨d0, d1, d2, d3, d4, d5, d6, d7, g0, g1, g2, g3, g4, g5, g6, g7⟩ := ParAt.facts hZ1
      have HZ := Lib.hid hZ1
      have HP := Lib.hid hP
      clear hP hZ1
      go_upto_region 6 with fail
      have hP2 := ParAt.set (y := ⟨b, s.extract 2 (2 + n), false, emp, false, false, emp, false⟩) HP.out 1 (.string (s.extract 2 (2 + n))) rfl
      have hZ2 := ParAt.below HZ.out ((Below.refl bp w1).setCell (p := ⟨bp, 1, none⟩) (Nat.le_refl _) (.string (s.extract 2 (2 + n)))) hlt
      have hB3 := hB2.setCell (p := ⟨bp, 1, none⟩) (Nat.le_of_lt hlt) (.string (s.extract 2 (2 + n)))
      clear c0 c1 c2 c3 c4 c5 c6 c7 f0 f1 f2 f3 f4 f5 f6 f7 d0 d1 d2 d3 d4 d5 d6 d7 g0 g1 g2 g3 g4 g5 g6 g7 HZ HP
      generalize w1.setCell ⟨bp, 1, none⟩ (.string (s.extract 2 (2 + n))) = w2 at *
      obtain ⟨c0, c1, c2, c3, c4, c5, c6, c7, f0, f1, f2, f3, f4, f5, f6, f7⟩ := ParAt.facts hP2
      have HP := Lib.hid hP2
      clear hP2
      go_upto_region 7 with fail
      have hP3 := ParAt.set (y := ⟨b, s.extract 2 (2 + n), false, emp, false, false, emp, false⟩) HP.out 7 (.bool false) rfl
      have hZ3 := ParAt.below hZ2 ((Below.refl bp w2).setCell (p := ⟨bp, 7, none⟩) (Nat.le_refl _) (.bool false)) hlt
      have hB4 := hB3.setCell (p := ⟨bp, 7, none⟩) (Nat.le_of_lt hlt) (.bool false)
      clear c0 c1 c2 c3 c4 c5 c6 c7 f0 f1 f2 f3 f4 f5 f6 f7 HP hZ2 hB3
      generalize w2.setCell ⟨bp, 7, none⟩ (.bool false) = w3 at *
      obtain ⟨c0, c1, c2, c3, c4, c5, c6, c7, f0, f1, f2, f3, f4, f5, f6, f7⟩ := ParAt.facts hP3
      obtain ⟨d0, d1, d2, d3, d4, d5, d6, d7, g0, g1, g2, g3, g4, g5, g6, g7⟩ := ParAt.facts hZ3
      have HZ := Lib.hid hZ3
      clear hP3 hZ3
      go_wp2_with fail
      (try simp only [Exit.inBlock, Exit.then])
      refine bodyPost_ret (results_par2 rfl _ _ _ _ rfl (ParAt.lay HZ.out)) rfl ?_
      exact ⟨_, _, HO.out, congrArg (fun q => Ending.returned (.tuple #[_, .bool q])) (show (((r.length : Nat) : Int) + 2 == 2 + (n : Int)) = decide (s.size = n + 2) by rw [← h5, hsz]; simp), below_again hB4 (Nat.le_refl _)⟩
    · have HO := Lib.hid (HF.out false false (by simp [hdr]) (by simp [hem]))
      rw [hl, ← HS.out] at HO
      clear hdr HF hem
      have h4 : ((s.size : Int) == 3 + (n : Int)) = true := by rw [beq_iff_eq]; omega
      have h5 : ((s.size : Int) == 2 + (n : Int)) = false := by rw [beq_eq_false_iff_ne]; omega
      go_enter Tryd.func50, Tryd.ntmps50
      go_upto_region 1 with fail
      have hZ : ParAt (w.alloc (.cells litZ.cells 49)) w.heap.size litZ := heap_alloc_new _ _
      have hB0 : Below w.heap.size w (w.alloc (.cells litZ.cells 49)) := (Below.refl _ _).alloc (Nat.le_refl _) _
      have e0 : (w.alloc (.cells litZ.cells 49)) = w.alloc (.cells #[.int .i64 0, .string ⟨#[]⟩, .bool false, .string ⟨#[]⟩, .bool false, .bool false, .string ⟨#[]⟩, .bool false] 49) := rfl
      rw [e0] at hZ hB0
      generalize w.alloc (.cells #[.int .i64 0, .string ⟨#[]⟩, .bool false, .string ⟨#[]⟩, .bool false, .bool false, .string ⟨#[]⟩, .bool false] 49) = w0 at *
      go_upto_region 3 with (go_at_call 51; refine (HR.out _).mono ?_; rintro e w1 ⟨rfl, rfl⟩)
      have hP : ParAt (w0.alloc (.cells (par0 b).cells 49)) w0.heap.size (par0 b) := heap_alloc_new _ _
      have hB1 : Below w0.heap.size w0 (w0.alloc (.cells (par0 b).cells 49)) := (Below.refl _ _).alloc (Nat.le_refl _) _
      have e1 : (w0.alloc (.cells (par0 b).cells 49)) = w0.alloc (.cells #[.int .i64 b, .string ⟨#[]⟩, .bool false, .string ⟨#[]⟩, .bool false, .bool false, .string ⟨#[]⟩, .bool false] 49) := rfl
      rw [e1] at hP hB1
      have hZ1 := hZ.below hB1 hZ.lt
      have hlt : w.heap.size < w0.heap.size := hZ.lt
      have hB2 := hB0.trans (hB1.mono hB0.size)
      generalize w0.alloc (.cells #[.int .i64 b, .string ⟨#[]⟩, .bool false, .string ⟨#[]⟩, .bool false, .bool false, .string ⟨#[]⟩, .bool false] 49) = w1 at *
      generalize w0.heap.size = bp at *
      clear e0 e1 hZ hB0 hB1 HR
      obtain ⟨c0, c1, c2, c3, c4, c5, c6, c7, f0, f1, f2, f3, f4, f5, f6, f7⟩ := ParAt.facts hP
      obtain ⟨d0, d1, d2, d3, d4, d5, d6, d7, g0, g1, g2, g3, g4, g5, g6, g7⟩ := ParAt.facts hZ1
      have HZ := Lib.hid hZ1
      have HP := Lib.hid hP
      clear hP hZ1
      go_upto_region 6 with fail
      have hP2 := ParAt.set (y := ⟨b, s.extract 2 (2 + n), false, emp, false, false, emp, false⟩) HP.out 1 (.string (s.extract 2 (2 + n))) rfl
      have hZ2 := ParAt.below HZ.out ((Below.refl bp w1).setCell (p := ⟨bp, 1, none⟩) (Nat.le_refl _) (.string (s.extract 2 (2 + n)))) hlt
      have hB3 := hB2.setCell (p := ⟨bp, 1, none⟩) (Nat.le_of_lt hlt) (.string (s.extract 2 (2 + n)))
      clear c0 c1 c2 c3 c4 c5 c6 c7 f0 f1 f2 f3 f4 f5 f6 f7 d0 d1 d2 d3 d4 d5 d6 d7 g0 g1 g2 g3 g4 g5 g6 g7 HZ HP
      generalize w1.setCell ⟨bp, 1, none⟩ (.string (s.extract 2 (2 + n))) = w2 at *
      obtain ⟨c0, c1, c2, c3, c4, c5, c6, c7, f0, f1, f2, f3, f4, f5, f6, f7⟩ := ParAt.facts hP2
      have HP := Lib.hid hP2
      clear hP2
      go_upto_region 7 with fail
      have hP3 := ParAt.set (y := ⟨b, s.extract 2 (2 + n), false, emp, false, false, emp, false⟩) HP.out 7 (.bool false) rfl
      have hZ3 := ParAt.below hZ2 ((Below.refl bp w2).setCell (p := ⟨bp, 7, none⟩) (Nat.le_refl _) (.bool false)) hlt
      have hB4 := hB3.setCell (p := ⟨bp, 7, none⟩) (Nat.le_of_lt hlt) (.bool false)
      clear c0 c1 c2 c3 c4 c5 c6 c7 f0 f1 f2 f3 f4 f5 f6 f7 HP hZ2 hB3
      generalize w2.setCell ⟨bp, 7, none⟩ (.bool false) = w3 at *
      obtain ⟨c0, c1, c2, c3, c4, c5, c6, c7, f0, f1, f2, f3, f4, f5, f6, f7⟩ := ParAt.facts hP3
      obtain ⟨d0, d1, d2, d3, d4, d5, d6, d7, g0, g1, g2, g3, g4, g5, g6, g7⟩ := ParAt.facts hZ3
      have HZ := Lib.hid hZ3
      clear hP3 hZ3
      go_wp2_with fail
      (try simp only [Exit.inBlock, Exit.then])
      refine bodyPost_ret (results_par2 rfl _ _ _ _ rfl (ParAt.lay HZ.out)) rfl ?_
      exact ⟨_, _, HO.out, congrArg (fun q => Ending.returned (.tuple #[_, .bool q])) (show ((3 : Int) + n == 2 + (n : Int)) = false by rw [beq_eq_false_iff_ne]; omega), below_again hB4 (Nat.le_refl _)⟩
end Go.Proofs.YthnchejhcmpipaaDoor
