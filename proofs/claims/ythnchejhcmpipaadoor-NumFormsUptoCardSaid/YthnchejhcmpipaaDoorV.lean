/- Plain: a number of base ten, printed and read again. No program in sight. -/
import Derived.Test.YthnchejhcmpipaaDoorS
namespace Go.Proofs.YthnchejhcmpipaaDoor

/-- the pieces of a number of base ten. -/
def wholeOk (w : List UInt8) : Prop := w = [48] ∨ (runN 0 false w = w.length ∧ w.head? ≠ some 48)
def powOk (p : List UInt8) : Prop := runN 0 false p = p.length ∧ p ≠ [] ∧ (Lib.trimLeftB (plainL p) 48).length ≤ 9
def expText (ex minus : Bool) (p : List UInt8) : List UInt8 := if ex = true then 101 :: ((if minus = true then [45] else []) ++ p) else []
/-- base ten, in the form that is printed. -/
structure Ten (w : List UInt8) (pt : Bool) (f : List UInt8) (ex minus : Bool) (p : List UInt8) (big : Bool) : Prop where
  whole : wholeOk w
  part : runN 0 false f = f.length
  some : w ≠ [] ∨ f ≠ []
  nopt : pt = false → f = []
  pow : ex = true → powOk p
  noex : ex = false → minus = false ∧ p = []
  big : big = true → pt = false ∧ ex = false
def ptText (pt : Bool) (f : List UInt8) : List UInt8 := if pt = true then 46 :: f else []
theorem stops_tail (ex minus : Bool) (p : List UInt8) (big : Bool) : stops 0 (expText ex minus p ++ (endB big).data.toList) := by
  cases ex with
  | true => exact stops_cons (by decide) (by decide)
  | false =>
    cases big with
    | true => exact stops_cons (by decide) (by decide)
    | false => exact stops_nil 0
theorem stops_tail2 (pt : Bool) (f : List UInt8) (ex minus : Bool) (p : List UInt8) (big : Bool) : stops 0 (ptText pt f ++ (expText ex minus p ++ (endB big).data.toList)) := by
  cases pt with
  | true => exact stops_cons (by decide) (by decide)
  | false => exact stops_tail ex minus p big
theorem runB_mk (b : Nat) (w r : List UInt8) (hw : runN b false w = w.length) (hr : stops b r) : runB b (mkB (w ++ r)) = (mkB w, mkB r) := by
  obtain ⟨h1, h2⟩ := runB_parts b (mkB (w ++ r)) w r rfl hw hr
  exact Prod.ext (mkB_of h1) (mkB_of h2)
theorem hasPrefix_cons (c d : UInt8) (r : List UInt8) : Lib.hasPrefix (c :: r) [d] = decide (c = d) := by
  by_cases h : c = d
  · subst h; simp [Lib.hasPrefix]
  · rw [decide_eq_false h]
    unfold Lib.hasPrefix
    rw [List.isPrefixOf_cons_cons, beq_false_of_ne (fun e => h e.symm)]
    rfl
theorem hasPrefix_nil (d : UInt8) : Lib.hasPrefix [] [d] = false := rfl
theorem mkB_tail (c : UInt8) (r : List UInt8) : (mkB (c :: r)).extract 1 (mkB (c :: r)).size = mkB r := mkB_of (by rw [extract_drop]; rfl)
theorem wholeO_mk (w r : List UInt8) (hw : wholeOk w) (hne : stops 0 r) (hr : w = [] → ∀ t, r ≠ 48 :: t) : wholeO (mkB (w ++ r)) = (mkB w, mkB r) := by
  rcases hw with rfl | ⟨hw, h48⟩
  · unfold wholeO
    rw [if_pos (by rw [mkB_list]; rfl)]
    exact Prod.ext rfl (mkB_tail 48 r)
  · unfold wholeO
    rw [if_neg, runB_mk 0 w r hw hne]
    rw [mkB_list]
    cases w with
    | nil =>
      cases r with
      | nil => decide
      | cons c t =>
        rw [List.nil_append, hasPrefix_cons]
        intro e
        exact hr rfl t (by rw [of_decide_eq_true e])
    | cons c t =>
      rw [List.cons_append, hasPrefix_cons]
      intro e
      exact h48 (by rw [List.head?_cons, of_decide_eq_true e])
theorem partO_mk (pt : Bool) (f r : List UInt8) (hf : runN 0 false f = f.length) (h0 : pt = false → f = []) (hr : stops 0 r) (h46 : ∀ t, r ≠ 46 :: t) : partO (mkB (ptText pt f ++ r)) = (pt, mkB f, mkB r) := by
  unfold partO
  cases pt with
  | true =>
    unfold ptText
    rw [if_pos rfl, if_pos (by rw [mkB_list]; rfl), List.cons_append, mkB_tail, runB_mk 0 f r hf hr]
  | false =>
    have e0 : ptText false f ++ r = r := rfl
    rw [e0, h0 rfl, if_neg]
    · rfl
    · rw [mkB_list]
      cases r with
      | nil => decide
      | cons c t =>
        rw [hasPrefix_cons]
        intro e
        exact h46 t (by rw [of_decide_eq_true e])
theorem run_head {p : List UInt8} (h : runN 0 false p = p.length) {c : UInt8} {t : List UInt8} (e : p = c :: t) : 48 ≤ c.toNat ∧ c.toNat ≤ 57 := by
  subst e
  rw [runN] at h
  by_cases hd : isD 0 c = true
  · exact isD_10 hd
  · rw [if_neg hd, if_neg (fun x => by cases x.2.1)] at h
    simp at h
theorem powO_mk (m : Bool) (p : List UInt8) (big : Bool) (hp : powOk p) : powO m (mkB (p ++ (endB big).data.toList)) = some (m, mkB p, mkB (endB big).data.toList) := by
  have h := take_whole (r := (endB big).data.toList) hp.1 (stops_tail false false [] big)
  unfold powO
  simp only [extract_take, mkB_list, h, List.take_left]
  rw [if_neg]
  · refine congrArg some (Prod.ext rfl (Prod.ext (mkB_of ?_) (mkB_of ?_)))
    · rw [extract_take, mkB_list, List.take_left]
    · rw [extract_drop, mkB_list, List.drop_left]
  · intro e
    rcases e with e | e
    · exact hp.2.1 (List.length_eq_zero_iff.1 e)
    · have := hp.2.2
      omega
theorem signO_mk (minus : Bool) (p r : List UInt8) (hp : powOk p) : signO (mkB ((if minus = true then [45] else []) ++ (p ++ r))) = (minus, mkB (p ++ r)) := by
  cases minus with
  | true =>
    unfold signO
    rw [if_pos rfl, List.cons_append, List.nil_append, mkB_list, hasPrefix_cons, if_pos (by simp), mkB_tail]
    simp
  | false =>
    rw [if_neg (by decide), List.nil_append]
    obtain ⟨c, t, e⟩ : ∃ c t, p = c :: t := List.exists_cons_of_ne_nil hp.2.1
    have hc := run_head hp.1 e
    subst e
    have n45 : c ≠ 45 := fun e => by rw [e] at hc; exact absurd hc.1 (by decide)
    have n43 : c ≠ 43 := fun e => by rw [e] at hc; exact absurd hc.1 (by decide)
    unfold signO
    rw [mkB_list, List.cons_append, hasPrefix_cons, hasPrefix_cons, decide_eq_false n45, decide_eq_false n43, if_neg (by decide)]
theorem get_cons (c : UInt8) (r : List UInt8) (h : 0 < (mkB (c :: r)).size) : (mkB (c :: r))[0] = c := rfl
theorem expO_cons (c : UInt8) (r : List UInt8) (h : (c.toNat ||| 32) = 101) : expO (mkB (c :: r)) = powO (signO (mkB r)).1 (signO (mkB r)).2 := by
  have h0 : 0 < (mkB (c :: r)).size := by rw [mkB_size]; simp
  unfold expO
  rw [dif_pos h0, get_cons c r h0, if_pos h, mkB_tail]
theorem expO_not (c : UInt8) (r : List UInt8) (h : (c.toNat ||| 32) ≠ 101) : expO (mkB (c :: r)) = none := by
  have h0 : 0 < (mkB (c :: r)).size := by rw [mkB_size]; simp
  unfold expO
  rw [dif_pos h0, get_cons c r h0, if_neg h]
theorem expO_mk (ex minus : Bool) (p : List UInt8) (big : Bool) (hp : ex = true → powOk p) : expO (mkB (expText ex minus p ++ (endB big).data.toList)) = if ex = true then some (minus, mkB p, mkB (endB big).data.toList) else none := by
  cases ex with
  | true =>
    have h1 : expText true minus p ++ (endB big).data.toList = 101 :: ((if minus = true then [45] else []) ++ (p ++ (endB big).data.toList)) := by
      unfold expText; rw [if_pos rfl]; simp
    rw [h1, if_pos rfl]
    exact (expO_cons 101 _ rfl).trans (by rw [signO_mk minus p _ (hp rfl)]; exact powO_mk minus p big (hp rfl))
  | false =>
    rw [if_neg (by decide)]
    cases big with
    | true => exact expO_not 110 _ (by decide)
    | false => rfl
theorem bigL_mk (x : Lit) (big : Bool) (hb : big = true → x.point = false ∧ x.ex = false) (h0 : x.big = false) : bigL x (mkB (endB big).data.toList) = ({ x with big := big }, emp) := by
  obtain ⟨base, whole, point, part, ex, minus, power, b⟩ := x
  simp only at hb h0
  subst h0
  cases big with
  | true =>
    obtain ⟨h1, h2⟩ := hb rfl
    subst h1 h2
    rfl
  | false =>
    unfold bigL
    rw [if_neg]
    · rfl
    · rw [mkB_list, show (endB false).data.toList = [] from rfl, hasPrefix_nil]
      simp
/-- the printed text of its pieces. -/
def tenText (w : List UInt8) (pt : Bool) (f : List UInt8) (ex minus : Bool) (p : List UInt8) (big : Bool) : List UInt8 := w ++ (ptText pt f ++ (expText ex minus p ++ (endB big).data.toList))
theorem tail_not46 (ex minus : Bool) (p : List UInt8) (big : Bool) (t : List UInt8) : expText ex minus p ++ (endB big).data.toList ≠ 46 :: t := by
  cases ex with
  | true =>
    unfold expText
    rw [if_pos rfl]
    intro e
    have := (List.cons.inj e).1
    revert this
    decide
  | false =>
    cases big with
    | true => intro e; have := (List.cons.inj e).1; revert this; decide
    | false => intro e; cases e
theorem tail_not48 (pt : Bool) (f : List UInt8) (ex minus : Bool) (p : List UInt8) (big : Bool) (t : List UInt8) : ptText pt f ++ (expText ex minus p ++ (endB big).data.toList) ≠ 48 :: t := by
  cases pt with
  | true => intro e; have := (List.cons.inj e).1; revert this; decide
  | false =>
    cases ex with
    | true => intro e; have := (List.cons.inj e).1; revert this; decide
    | false =>
      cases big with
      | true => intro e; have := (List.cons.inj e).1; revert this; decide
      | false => intro e; cases e
theorem tail_not (pt : Bool) (f : List UInt8) (ex minus : Bool) (p : List UInt8) (big : Bool) (c : UInt8) (t : List UInt8) (h : ptText pt f ++ (expText ex minus p ++ (endB big).data.toList) = c :: t) : c = 46 ∨ c = 101 ∨ c = 110 := by
  cases pt with
  | true => exact .inl (List.cons.inj h).1.symm
  | false =>
    cases ex with
    | true => exact .inr (.inl (List.cons.inj h).1.symm)
    | false =>
      cases big with
      | true => exact .inr (.inr (List.cons.inj h).1.symm)
      | false => cases h
theorem ten_notOth {w : List UInt8} {pt : Bool} {f : List UInt8} {ex minus : Bool} {p : List UInt8} {big : Bool} (h : Ten w pt f ex minus p big) : isOth (mkB (tenText w pt f ex minus p big)) = false := by
  cases ho : isOth (mkB (tenText w pt f ex minus p big)) with
  | false => rfl
  | true =>
    exfalso
    obtain ⟨c1, r, e, hb, h65⟩ := isOth_head ho
    rw [mkB_list] at e
    unfold tenText at e
    rcases h.whole with rfl | ⟨hw, h48⟩
    · rcases tail_not _ _ _ _ _ _ _ _ (List.cons.inj e).2 with rfl | rfl | rfl
      · exact absurd h65 (by decide)
      · revert hb; decide
      · revert hb; decide
    · cases w with
      | nil => exact tail_not48 _ _ _ _ _ _ _ e
      | cons c t => exact h48 (by rw [List.head?_cons, (List.cons.inj e).1])
def tenLit (w : List UInt8) (pt : Bool) (f : List UInt8) (ex minus : Bool) (p : List UInt8) (big : Bool) : Lit := ⟨10, mkB w, pt, mkB f, ex, minus, mkB p, big⟩
theorem Ten.read {w : List UInt8} {pt : Bool} {f : List UInt8} {ex minus : Bool} {p : List UInt8} {big : Bool} (h : Ten w pt f ex minus p big) : readB (mkB (tenText w pt f ex minus p big)) = (tenLit w pt f ex minus p big, true) := by
  have hs : scanB (mkB (tenText w pt f ex minus p big)) = scanDec (mkB (tenText w pt f ex minus p big)) := by unfold scanB; rw [ten_notOth h]; rfl
  have hwo : wholeO (mkB (tenText w pt f ex minus p big)) = (mkB w, mkB (ptText pt f ++ (expText ex minus p ++ (endB big).data.toList))) :=
    wholeO_mk w _ h.whole (stops_tail2 _ _ _ _ _ _) (fun _ t => tail_not48 _ _ _ _ _ _ t)
  have hpo := partO_mk pt f (expText ex minus p ++ (endB big).data.toList) h.part h.nopt (stops_tail _ _ _ _) (tail_not46 _ _ _ _)
  have hex := expO_mk ex minus p big h.pow
  have hd : scanDec (mkB (tenText w pt f ex minus p big)) = (tenLit w pt f ex minus p big, emp, true) := by
    unfold scanDec
    simp only [hwo, hpo]
    rw [if_neg]
    · have hel : expL (lit10 (mkB w) pt (mkB f)) (mkB (expText ex minus p ++ (endB big).data.toList)) = (⟨10, mkB w, pt, mkB f, ex, minus, mkB p, false⟩, mkB (endB big).data.toList) := by
        unfold expL
        rw [hex]
        cases ex with
        | true => rfl
        | false =>
          obtain ⟨h1, h2⟩ := h.noex rfl
          subst h1 h2
          rfl
      rw [hel]
      simp only
      rw [bigL_mk _ big h.big rfl]
      rfl
    · rw [mkB_size, mkB_size]
      intro e
      simp only [Bool.and_eq_true, decide_eq_true_eq] at e
      rcases h.some with h | h
      · exact h (List.length_eq_zero_iff.1 e.1)
      · exact h (List.length_eq_zero_iff.1 e.2)
  unfold readB
  rw [hs, hd]
  simp only [emp_isEmpty, Bool.and_self]
end Go.Proofs.YthnchejhcmpipaaDoor
