/- Plain: what package num's read gives, by the places in the text at which its parts end. No program in sight. -/
import Derived.Test.YthnchejhcmpipaaDoorZ
import Derived.Test.YthnchejhcmpipaaDoorRA
namespace Go.Proofs.YthnchejhcmpipaaDoor

theorem runZ_bad {β : Nat} {l : List UInt8} (h : runZ β l < 0) : ∃ t, l.drop (runN β false l) = 95 :: t := by
  unfold runZ at h
  by_cases e : (l.drop (runN β false l)).head? = some 95
  · cases hl : l.drop (runN β false l) with
    | nil => rw [hl] at e; cases e
    | cons c t => rw [hl] at e; exact ⟨t, by rw [Option.some.inj e]⟩
  · rw [if_neg e] at h; omega
theorem runZ_bad1 {β : Nat} {l : List UInt8} (h : runZ β l < 0) : runZ β l = -1 := by
  unfold runZ at h ⊢
  split
  · rfl
  · rename_i e; rw [if_neg e] at h; omega
theorem runZ_good {β : Nat} {l : List UInt8} (h : 0 ≤ runZ β l) : runZ β l = (runN β false l : Nat) ∧ (l.drop (runN β false l)).head? ≠ some 95 := by
  unfold runZ at h ⊢
  split
  · rename_i e; rw [if_pos e] at h; omega
  · rename_i e; exact ⟨rfl, e⟩
/-- what run takes does not go on with a digit. -/
theorem runN_next (β : Nat) : ∀ (l : List UInt8) (p : Bool) (c : UInt8) (t : List UInt8), l.drop (runN β p l) = c :: t → isD β c = false
  | [], p, c, t, h => by simp [runN] at h
  | d :: l, p, c, t, h => by
    by_cases hd : isD β d = true
    · rw [runN, if_pos hd, List.drop_succ_cons] at h
      exact runN_next β l true c t h
    · by_cases hu : d = 95 ∧ p = true ∧ headD β l = true
      · rw [runN, if_neg hd, if_pos hu, List.drop_succ_cons] at h
        exact runN_next β l false c t h
      · rw [runN, if_neg hd, if_neg hu, List.drop_zero] at h
        cases h
        simpa using hd
theorem okB_or {c : UInt8} (h : c = 95 ∨ isD 0 c = true) : c ≠ 46 ∧ (c.toNat ||| 32) ≠ 101 ∧ c ≠ 110 := by
  have := all_bytes (P := fun c => (c = 95 ∨ isD 0 c = true) → c ≠ 46 ∧ (c.toNat ||| 32) ≠ 101 ∧ c ≠ 110) (by decide +kernel) c
  exact this h
theorem partO_none {r : List UInt8} (h : ∀ t, r ≠ 46 :: t) : partO (mkB r) = (false, emp, mkB r) := by
  unfold partO
  rw [if_neg]
  rw [mkB_list]
  intro e
  obtain ⟨t, ht⟩ := hasPrefix_one e
  exact h t ht
theorem partO_some (t : List UInt8) : partO (mkB (46 :: t)) = (true, mkB (t.take (runN 0 false t)), mkB (t.drop (runN 0 false t))) := by
  unfold partO
  rw [mkB_list, hasPrefix_cons, if_pos (by decide), mkB_tail]
  unfold runB
  rw [mkB_list]
  refine Prod.ext rfl (Prod.ext (mkB_of ?_) (mkB_of ?_))
  · rw [extract_take, mkB_list]
  · rw [extract_drop, mkB_list]
theorem bigL_none {x : Lit} {r : List UInt8} (h : ∀ t, r = 110 :: t → x.point = true ∨ x.ex = true) : bigL x (mkB r) = (x, mkB r) := by
  unfold bigL
  rw [if_neg]
  intro e
  simp only [Bool.and_eq_true, Bool.not_eq_true', mkB_list] at e
  obtain ⟨t, ht⟩ := hasPrefix_one e.2
  rcases h t ht with h | h
  · rw [h] at e; cases e.1.1
  · rw [h] at e; cases e.1.2
theorem bigL_some {x : Lit} {t : List UInt8} (h1 : x.point = false) (h2 : x.ex = false) : bigL x (mkB (110 :: t)) = ({ x with big := true }, mkB t) := by
  unfold bigL
  rw [if_pos, mkB_tail]
  rw [h1, h2, mkB_list, hasPrefix_cons]
  decide
theorem mk_empty (l : List UInt8) : (mkB l).toList.isEmpty = l.isEmpty := by rw [Lib.toList_data, mkB_list]
/-- the parts at the beginning of a number of base ten. -/
structure DecS (s : ByteArray) (W : ByteArray) (R1 : List UInt8) (pt : Bool) (F : ByteArray) (R2 : List UInt8) : Prop where
  no : isOth s = false
  whole : wholeO s = (W, mkB R1)
  part : partO (mkB R1) = (pt, F, mkB R2)
theorem DecS.none {s W F : ByteArray} {R1 R2 : List UInt8} {pt : Bool} (h : DecS s W R1 pt F R2) (h0 : W.size = 0) (h1 : F.size = 0) : (readB s).2 = false := by
  have hs : scanB s = scanDec s := by unfold scanB; rw [h.no, if_neg (by decide)]
  unfold readB
  rw [hs, scanDec_none h.whole h.part h0 h1]
  rfl
theorem scanDec_some2 {t W R F R2 R3 R4 : ByteArray} {pt : Bool} {x y : Lit} (hw : wholeO t = (W, R)) (hp : partO R = (pt, F, R2)) (h0 : W.size ≠ 0 ∨ F.size ≠ 0) (he : expL (lit10 W pt F) R2 = (x, R3)) (hb : bigL x R3 = (y, R4)) : scanDec t = (y, R4, true) := by
  unfold scanDec
  simp only [hw, hp, he, hb]
  rw [if_neg]
  intro e
  simp only [Bool.and_eq_true, decide_eq_true_eq] at e
  rcases h0 with h | h
  · exact h e.1
  · exact h e.2
theorem DecS.plain {s W F : ByteArray} {R1 R2 R3 R4 : List UInt8} {pt : Bool} {x y : Lit} (h : DecS s W R1 pt F R2) (h0 : W.size ≠ 0 ∨ F.size ≠ 0) (he : expL (lit10 W pt F) (mkB R2) = (x, mkB R3)) (hb : bigL x (mkB R3) = (y, mkB R4)) : readB s = (y, R4.isEmpty) := by
  have hs : scanB s = scanDec s := by unfold scanB; rw [h.no, if_neg (by decide)]
  unfold readB
  rw [hs, scanDec_some2 h.whole h.part h0 he hb, Bool.true_and, mk_empty]
theorem expL_none (x : Lit) {R : ByteArray} (h : expO R = none) : expL x R = (x, R) := by unfold expL; rw [h]
theorem expL_some (x : Lit) {R p r : ByteArray} {m : Bool} (h : expO R = some (m, p, r)) : expL x R = ({ x with ex := true, minus := m, power := p }, r) := by unfold expL; rw [h]
/-- behind the digits ahead stands a digit or _: no number. -/
theorem dec_bad1 {s W : ByteArray} {c : UInt8} {t : List UInt8} (hno : isOth s = false) (hw : wholeO s = (W, mkB (c :: t))) (hc : c = 95 ∨ isD 0 c = true) : (readB s).2 = false := by
  obtain ⟨h1, h2, h3⟩ := okB_or hc
  have h : DecS s W (c :: t) false emp (c :: t) := ⟨hno, hw, partO_none (fun t e => h1 (List.cons.inj e).1)⟩
  by_cases h0 : W.size = 0
  · exact h.none h0 rfl
  · rw [h.plain (.inl h0) (expL_none _ (expO_not c t h2)) (bigL_none (fun u e => absurd (List.cons.inj e).1 h3))]
    rfl
/-- behind the digits of the part stands a _: no number. -/
theorem dec_bad2 {s W F : ByteArray} {R1 t : List UInt8} {pt : Bool} (h : DecS s W R1 pt F (95 :: t)) : (readB s).2 = false := by
  by_cases h0 : W.size ≠ 0 ∨ F.size ≠ 0
  · rw [h.plain h0 (expL_none _ (expO_not 95 t (by decide))) (bigL_none (fun u e => absurd (List.cons.inj e).1 (by decide)))]
    rfl
  · exact h.none (by omega) (by omega)
/-- where whole ends. -/
theorem wholeO_run {s : ByteArray} (h : ¬ (1 < runN 0 false s.data.toList ∧ s.data.toList.head? = some 48)) : wholeO s = (mkB (s.data.toList.take (runN 0 false s.data.toList)), mkB (s.data.toList.drop (runN 0 false s.data.toList))) := by
  unfold wholeO
  split
  · rename_i hp
    obtain ⟨t, ht⟩ := hasPrefix_one hp
    have h1 : 1 ≤ runN 0 false s.data.toList := by rw [ht, runN, if_pos (by decide)]; omega
    have hn : runN 0 false s.data.toList = 1 := by
      by_cases e : 1 < runN 0 false s.data.toList
      · exact absurd ⟨e, by rw [ht]; rfl⟩ h
      · omega
    rw [hn]
    refine Prod.ext (mkB_of ?_) (mkB_of (extract_drop s 1))
    rw [ht]
    rfl
  · unfold runB
    exact Prod.ext (mkB_of (extract_take s _)) (mkB_of (extract_drop s _))
theorem run_head2 {l : List UInt8} {b : Nat} {c d : UInt8} {t : List UInt8} (e : l = c :: d :: t) (h : 1 < runN b false l) : okB b d := by
  have h2 := runN_all b false l d (by
    subst e
    obtain ⟨k, hk⟩ : ∃ k, runN b false (c :: d :: t) = k + 2 := ⟨runN b false (c :: d :: t) - 2, by omega⟩
    rw [hk]
    simp)
  exact h2
/-- the digits ahead are no run: no number. -/
theorem dec_reject0 {s : ByteArray} (hno : isOth s = false) (h : runZ 0 s.data.toList < 0) : (readB s).2 = false := by
  obtain ⟨t, ht⟩ := runZ_bad h
  by_cases hp : 1 < runN 0 false s.data.toList ∧ s.data.toList.head? = some 48
  · obtain ⟨h1, h2⟩ := hp
    obtain ⟨c, r, hl⟩ : ∃ c r, s.data.toList = c :: r := by
      cases hl : s.data.toList with
      | nil => rw [hl] at h2; cases h2
      | cons c r => exact ⟨c, r, rfl⟩
    have hc : c = 48 := by rw [hl] at h2; exact Option.some.inj h2
    subst hc
    have hw : wholeO s = (⟨#[48]⟩, mkB r) := by
      unfold wholeO
      rw [if_pos (by rw [hl]; rfl)]
      exact Prod.ext rfl (mkB_of (by rw [extract_drop, hl]; rfl))
    cases r with
    | nil =>
      have hle := runN_le 0 false s.data.toList
      rw [hl] at h1 hle
      simp at hle
      omega
    | cons d r =>
      rcases run_head2 hl h1 with hd | hd
      · exact dec_bad1 hno hw (.inr hd)
      · exact dec_bad1 hno hw (.inl hd)
  · have hw := wholeO_run hp
    rw [ht] at hw
    exact dec_bad1 hno hw (.inl rfl)
/-- a nought ahead of digits: no number. -/
theorem dec_reject1 {s : ByteArray} (hno : isOth s = false) (h1 : 1 < runN 0 false s.data.toList) (h2 : s.data.toList.head? = some 48) : (readB s).2 = false := by
  obtain ⟨c, r, hl⟩ : ∃ c r, s.data.toList = c :: r := by
    cases hl : s.data.toList with
    | nil => rw [hl] at h2; cases h2
    | cons c r => exact ⟨c, r, rfl⟩
  have hc : c = 48 := by rw [hl] at h2; exact Option.some.inj h2
  subst hc
  have hw : wholeO s = (⟨#[48]⟩, mkB r) := by
    unfold wholeO
    rw [if_pos (by rw [hl]; rfl)]
    exact Prod.ext rfl (mkB_of (by rw [extract_drop, hl]; rfl))
  cases r with
  | nil =>
    have hle := runN_le 0 false s.data.toList
    rw [hl] at h1 hle
    simp at hle
    omega
  | cons d r =>
    rcases run_head2 hl h1 with hd | hd
    · exact dec_bad1 hno hw (.inr hd)
    · exact dec_bad1 hno hw (.inl hd)
/-! ## the exponent -/
theorem signO_not {t : List UInt8} (h45 : ∀ u, t ≠ 45 :: u) (h43 : ∀ u, t ≠ 43 :: u) : signO (mkB t) = (false, mkB t) := by
  have e1 : Lib.hasPrefix t [45] = false := by
    cases h : Lib.hasPrefix t [45] with
    | false => rfl
    | true => obtain ⟨u, hu⟩ := hasPrefix_one h; exact absurd hu (h45 u)
  have e2 : Lib.hasPrefix t [43] = false := by
    cases h : Lib.hasPrefix t [43] with
    | false => rfl
    | true => obtain ⟨u, hu⟩ := hasPrefix_one h; exact absurd hu (h43 u)
  unfold signO
  rw [mkB_list, e1, e2]
  rfl
theorem signO_minus (u : List UInt8) : signO (mkB (45 :: u)) = (true, mkB u) := by
  unfold signO
  rw [mkB_list, hasPrefix_cons, if_pos (by simp), mkB_tail]
  rfl
theorem signO_plus (u : List UInt8) : signO (mkB (43 :: u)) = (false, mkB u) := by
  unfold signO
  rw [mkB_list, hasPrefix_cons, hasPrefix_cons, if_pos (by decide), mkB_tail]
  rfl
theorem powO_no {m : Bool} {u : List UInt8} (h : runN 0 false u = 0 ∨ 9 < (Lib.trimLeftB (plainL (u.take (runN 0 false u))) 48).length) : powO m (mkB u) = none := by
  unfold powO
  simp only [extract_take, mkB_list]
  exact if_pos h
theorem powO_yes {m : Bool} {u : List UInt8} (h0 : runN 0 false u ≠ 0) (h9 : ¬ 9 < (Lib.trimLeftB (plainL (u.take (runN 0 false u))) 48).length) : powO m (mkB u) = some (m, mkB (u.take (runN 0 false u)), mkB (u.drop (runN 0 false u))) := by
  unfold powO
  simp only [extract_take, mkB_list]
  rw [if_neg (fun h => h.elim h0 h9)]
  refine congrArg some (Prod.ext rfl (Prod.ext (mkB_of ?_) (mkB_of ?_)))
  · rw [extract_take, mkB_list]
  · rw [extract_drop, mkB_list]
/-- an exponent's letter and sign, then no digits in order: no number. -/
theorem dec_badexp {s W F : ByteArray} {R1 t u : List UInt8} {pt m : Bool} {c : UInt8} (h : DecS s W R1 pt F (c :: t)) (h0 : W.size ≠ 0 ∨ F.size ≠ 0) (hc : (c.toNat ||| 32) = 101) (hs : signO (mkB t) = (m, mkB u)) (hr : runZ 0 u < 1 ∨ 9 < (Lib.trimLeftB (plainL (u.take (runN 0 false u))) 48).length) : (readB s).2 = false := by
  have hE := expO_cons c t hc
  rw [hs] at hE
  have h110 : c ≠ 110 := fun e => by rw [e] at hc; exact absurd hc (by decide)
  by_cases hn : runN 0 false u = 0 ∨ 9 < (Lib.trimLeftB (plainL (u.take (runN 0 false u))) 48).length
  · have hno : expO (mkB (c :: t)) = none := hE.trans (powO_no hn)
    rw [h.plain h0 (expL_none _ hno) (bigL_none (fun u e => absurd (List.cons.inj e).1 h110))]
    rfl
  · have n0 : runN 0 false u ≠ 0 := fun e => hn (.inl e)
    have n9 : ¬ 9 < (Lib.trimLeftB (plainL (u.take (runN 0 false u))) 48).length := fun e => hn (.inr e)
    have hz : runZ 0 u < 0 := by
      rcases hr with hr | hr
      · by_cases e : 0 ≤ runZ 0 u
        · have := (runZ_good e).1; omega
        · omega
      · exact absurd hr n9
    obtain ⟨v, hv⟩ := runZ_bad hz
    have hyes : expO (mkB (c :: t)) = some (m, mkB (u.take (runN 0 false u)), mkB (95 :: v)) := by rw [← hv]; exact hE.trans (powO_yes n0 n9)
    rw [h.plain h0 (expL_some _ hyes) (bigL_none (fun u e => .inr rfl))]
    rfl
/-- an exponent. -/
theorem dec_exp {s W F : ByteArray} {R1 t u : List UInt8} {pt m : Bool} {c : UInt8} (h : DecS s W R1 pt F (c :: t)) (h0 : W.size ≠ 0 ∨ F.size ≠ 0) (hc : (c.toNat ||| 32) = 101) (hs : signO (mkB t) = (m, mkB u)) (hr : 1 ≤ runZ 0 u) (h9 : ¬ 9 < (Lib.trimLeftB (plainL (u.take (runN 0 false u))) 48).length) :
    readB s = (⟨10, W, pt, F, true, m, mkB (u.take (runN 0 false u)), false⟩, (u.drop (runN 0 false u)).isEmpty) := by
  have hE := expO_cons c t hc
  rw [hs] at hE
  have n0 : runN 0 false u ≠ 0 := fun e => by have := (runZ_good (show 0 ≤ runZ 0 u by omega)).1; omega
  have hyes : expO (mkB (c :: t)) = some (m, mkB (u.take (runN 0 false u)), mkB (u.drop (runN 0 false u))) := hE.trans (powO_yes n0 h9)
  exact h.plain h0 (expL_some _ hyes) (bigL_none (fun u e => .inr rfl))
/-- no exponent, no n. -/
theorem dec_noexp {s W F : ByteArray} {R1 R2 : List UInt8} {pt : Bool} (h : DecS s W R1 pt F R2) (h0 : W.size ≠ 0 ∨ F.size ≠ 0) (hc : ∀ c t, R2 = c :: t → (c.toNat ||| 32) ≠ 101 ∧ (pt = false → c ≠ 110)) : readB s = (lit10 W pt F, R2.isEmpty) := by
  refine h.plain h0 (expL_none _ ?_) (bigL_none ?_)
  · cases R2 with
    | nil => rfl
    | cons c t => exact expO_not c t (hc c t rfl).1
  · intro t e
    cases hp : pt with
    | true => exact .inl rfl
    | false => exact absurd rfl ((hc 110 t e).2 hp)
/-- a big one. -/
theorem dec_big {s W : ByteArray} {t : List UInt8} (h : DecS s W (110 :: t) false emp (110 :: t)) (h0 : W.size ≠ 0) : readB s = (⟨10, W, false, emp, false, false, emp, true⟩, t.isEmpty) :=
  h.plain (.inl h0) (expL_none _ (expO_not 110 t (by decide))) (bigL_some rfl rfl)
end Go.Proofs.YthnchejhcmpipaaDoor
