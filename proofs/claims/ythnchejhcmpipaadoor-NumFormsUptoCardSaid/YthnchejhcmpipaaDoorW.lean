/- Plain: what read gives of a number of base ten, and that it is the same when it is printed and read again. No program in sight. -/
import Derived.Test.YthnchejhcmpipaaDoorV
namespace Go.Proofs.YthnchejhcmpipaaDoor

theorem hasPrefix_one {l : List UInt8} {d : UInt8} (h : Lib.hasPrefix l [d] = true) : ∃ t, l = d :: t := by
  cases l with
  | nil => rw [hasPrefix_nil] at h; cases h
  | cons c t => rw [hasPrefix_cons] at h; exact ⟨t, by rw [of_decide_eq_true h]⟩
theorem runB_sum (b : Nat) (s : ByteArray) : (runB b s).1.size + (runB b s).2.size = s.size := by
  have h := runN_le b false s.data.toList
  rw [ofl] at h
  unfold runB
  simp only [ByteArray.size_extract]
  omega
theorem runB_run (b : Nat) (s : ByteArray) : runN b false (runB b s).1.data.toList = (runB b s).1.data.toList.length := by
  unfold runB
  simp only [extract_take]
  exact runN_take b _ false
theorem wholeO_of (s : ByteArray) : wholeOk (wholeO s).1.data.toList ∧ (wholeO s).1.size + (wholeO s).2.size = s.size := by
  unfold wholeO
  split
  · rename_i h
    have := hasPrefix_pos h
    refine ⟨.inl rfl, ?_⟩
    simp only [ByteArray.size_extract]
    have e : (ByteArray.mk #[48]).size = 1 := rfl
    omega
  · rename_i h
    refine ⟨.inr ⟨runB_run 0 s, ?_⟩, runB_sum 0 s⟩
    intro e
    apply h
    unfold runB at e
    simp only [extract_take] at e
    cases hl : s.data.toList with
    | nil => rw [hl] at e; simp at e
    | cons c t =>
      rw [hl] at e
      rw [hasPrefix_cons]
      cases hn : runN 0 false (c :: t) with
      | zero => rw [hn] at e; simp at e
      | succ n => rw [hn] at e; simp at e; simp [e]
theorem partO_of (s : ByteArray) : runN 0 false (partO s).2.1.data.toList = (partO s).2.1.data.toList.length ∧ ((partO s).1 = false → (partO s).2.1.data.toList = []) ∧ (if (partO s).1 = true then 1 else 0) + (partO s).2.1.size + (partO s).2.2.size = s.size := by
  unfold partO
  split
  · rename_i h
    have h0 := hasPrefix_pos h
    refine ⟨runB_run 0 _, ⟨fun e => absurd (show true = false from e) (by decide), ?_⟩⟩
    have h1 := runB_sum 0 (s.extract 1 s.size)
    rw [ByteArray.size_extract] at h1
    show (1 : Nat) + (runB 0 (s.extract 1 s.size)).1.size + (runB 0 (s.extract 1 s.size)).2.size = s.size
    omega
  · refine ⟨rfl, fun _ => rfl, ?_⟩
    simp only
    rw [if_neg (by decide)]
    have e : emp.size = 0 := rfl
    omega
theorem signO_of (d : ByteArray) : (if (signO d).1 = true then 1 else 0) + (signO d).2.size ≤ d.size := by
  unfold signO
  simp only
  cases h : Lib.hasPrefix d.data.toList [45] with
  | true =>
    have := hasPrefix_pos h
    rw [if_pos rfl, if_pos (by simp), ByteArray.size_extract]
    omega
  | false =>
    rw [if_neg (by decide)]
    split
    · rw [ByteArray.size_extract]; omega
    · omega
theorem powO_of {m : Bool} {d : ByteArray} {q} (h : powO m d = some q) : q.1 = m ∧ powOk q.2.1.data.toList ∧ q.2.1.size + q.2.2.size = d.size := by
  unfold powO at h
  split at h
  · cases h
  · rename_i hn
    cases h
    have hle := runN_le 0 false d.data.toList
    rw [ofl] at hle
    refine ⟨rfl, ⟨runB_run 0 d, ?_, ?_⟩, ?_⟩
    · intro e
      apply hn
      left
      have := congrArg List.length e
      rw [extract_take, List.length_take, ofl, List.length_nil] at this
      by_cases h0 : d.size = 0
      · have e0 : d.data.toList = [] := List.length_eq_zero_iff.1 (by rw [ofl]; exact h0)
        rw [e0]; rfl
      · omega
    · exact Nat.le_of_not_lt fun e => hn (.inr e)
    · simp only [ByteArray.size_extract]; omega
theorem expO_of {s : ByteArray} {q} (h : expO s = some q) : powOk q.2.1.data.toList ∧ 1 + (if q.1 = true then 1 else 0) + q.2.1.size + q.2.2.size ≤ s.size := by
  unfold expO at h
  split at h
  · rename_i h0
    split at h
    · obtain ⟨h1, h2, h3⟩ := powO_of h
      have h4 := signO_of (s.extract 1 s.size)
      rw [ByteArray.size_extract] at h4
      rw [h1]
      exact ⟨h2, by omega⟩
    · cases h
  · cases h
theorem mkB_data (A : ByteArray) : mkB A.data.toList = A := (mkB_of rfl).symm
theorem endB_size (big : Bool) : (endB big).data.toList.length = if big = true then 1 else 0 := by cases big <;> rfl
theorem expText_len (ex minus : Bool) (p : List UInt8) : (expText ex minus p).length = if ex = true then 1 + (if minus = true then 1 else 0) + p.length else 0 := by
  cases ex <;> cases minus <;> simp [expText] <;> omega
theorem ptText_len (pt : Bool) (f : List UInt8) (h : pt = false → f = []) : (ptText pt f).length = (if pt = true then 1 else 0) + f.length := by
  cases pt with
  | true => simp [ptText]; omega
  | false => rw [h rfl]; rfl
theorem Ten.of {s : ByteArray} (ho : isOth s = false) (hr : (readB s).2 = true) :
    ∃ w pt f ex minus p big, Ten w pt f ex minus p big ∧ readB s = (tenLit w pt f ex minus p big, true) ∧ (tenText w pt f ex minus p big).length ≤ s.size := by
  have hs : scanB s = scanDec s := by unfold scanB; rw [ho]; rfl
  obtain ⟨hw, hws⟩ := wholeO_of s
  obtain ⟨hf, hfn, hfs⟩ := partO_of (wholeO s).2
  have hrr : readB s = ((scanDec s).1, (scanDec s).2.2 && (scanDec s).2.1.toList.isEmpty) := by unfold readB; rw [hs]
  rw [hrr] at hr
  have hd : scanDec s = if (decide ((wholeO s).1.size = 0) && decide ((partO (wholeO s).2).2.1.size = 0)) = true then (lit10 (wholeO s).1 (partO (wholeO s).2).1 (partO (wholeO s).2).2.1, (partO (wholeO s).2).2.2, false)
    else ((bigL (expL (lit10 (wholeO s).1 (partO (wholeO s).2).1 (partO (wholeO s).2).2.1) (partO (wholeO s).2).2.2).1 (expL (lit10 (wholeO s).1 (partO (wholeO s).2).1 (partO (wholeO s).2).2.1) (partO (wholeO s).2).2.2).2).1, (bigL (expL (lit10 (wholeO s).1 (partO (wholeO s).2).1 (partO (wholeO s).2).2.1) (partO (wholeO s).2).2.2).1 (expL (lit10 (wholeO s).1 (partO (wholeO s).2).1 (partO (wholeO s).2).2.1) (partO (wholeO s).2).2.2).2).2, true) := rfl
  generalize wholeO s = q1 at *
  obtain ⟨W, R1⟩ := q1
  simp only at hw hws hf hfn hfs hd
  generalize partO R1 = q2 at *
  obtain ⟨pt, F, R2⟩ := q2
  simp only at hf hfn hfs hd
  by_cases hz : (decide (W.size = 0) && decide (F.size = 0)) = true
  · rw [hd, if_pos hz] at hr
    simp at hr
  rw [if_neg hz] at hd
  have hsome : W.data.toList ≠ [] ∨ F.data.toList ≠ [] := by
    by_cases h1 : W.data.toList = []
    · right
      intro h2
      apply hz
      rw [← ofl W, ← ofl F, h1, h2]
      rfl
    · exact .inl h1
  -- the exponent
  obtain ⟨ex, minus, P, R3, hel, hpow, hnoex, hes⟩ : ∃ ex minus P R3, expL (lit10 W pt F) R2 = (⟨10, W, pt, F, ex, minus, P, false⟩, R3) ∧ (ex = true → powOk P.data.toList) ∧ (ex = false → minus = false ∧ P.data.toList = []) ∧ (if ex = true then 1 + (if minus = true then 1 else 0) + P.size else 0) + R3.size ≤ R2.size := by
    unfold expL
    cases he : expO R2 with
    | none => exact ⟨false, false, emp, R2, rfl, fun h => by (cases h), fun _ => ⟨rfl, rfl⟩, by simp⟩
    | some q =>
      obtain ⟨h1, h2⟩ := expO_of he
      obtain ⟨m, P, R⟩ := q
      exact ⟨true, m, P, R, rfl, fun _ => h1, fun h => by (cases h), by rw [if_pos rfl]; exact h2⟩
  rw [hel] at hd
  simp only at hd
  obtain ⟨big, R4, hbl, hbb, hbs⟩ : ∃ big R4, bigL ⟨10, W, pt, F, ex, minus, P, false⟩ R3 = (⟨10, W, pt, F, ex, minus, P, big⟩, R4) ∧ (big = true → pt = false ∧ ex = false) ∧ (if big = true then 1 else 0) + R4.size = R3.size := by
    unfold bigL
    by_cases hc : (!pt && !ex && Lib.hasPrefix R3.data.toList [110]) = true
    · refine ⟨true, R3.extract 1 R3.size, by rw [if_pos hc], fun _ => ?_, ?_⟩
      · simp only [Bool.and_eq_true, Bool.not_eq_true'] at hc
        exact hc.1
      · simp only [Bool.and_eq_true] at hc
        have := hasPrefix_pos hc.2
        rw [if_pos rfl, ByteArray.size_extract]
        omega
    · exact ⟨false, R3, by rw [if_neg hc], fun h => by (cases h), by simp⟩
  rw [hbl] at hd
  simp only at hd
  rw [hd] at hr hrr
  simp only [Bool.true_and] at hr hrr
  have h4 := size_of_empty hr
  refine ⟨W.data.toList, pt, F.data.toList, ex, minus, P.data.toList, big, ⟨hw, hf, hsome, hfn, hpow, hnoex, hbb⟩, ?_, ?_⟩
  · rw [hrr, hr]
    unfold tenLit
    rw [mkB_data, mkB_data, mkB_data]
  · unfold tenText
    rw [List.length_append, List.length_append, List.length_append, expText_len, endB_size, ptText_len pt _ hfn, ofl, ofl, ofl]
    omega
/-! ## printed -/
theorem trimR_split (l : List UInt8) : ∃ v, l = Lib.trimRightS l [48, 95] ++ v ∧ ∀ c ∈ v, c = 48 ∨ c = 95 := by
  refine ⟨(l.reverse.takeWhile (([48, 95] : List UInt8).contains ·)).reverse, ?_, ?_⟩
  · unfold Lib.trimRightS
    rw [← List.reverse_append, List.takeWhile_append_dropWhile, List.reverse_reverse]
  · intro c hc
    rw [List.mem_reverse] at hc
    have : ∀ (m : List UInt8), ∀ x ∈ m.takeWhile (([48, 95] : List UInt8).contains ·), ([48, 95] : List UInt8).contains x = true := by
      intro m
      induction m with
      | nil => intro x hx; cases hx
      | cons a m ih =>
        intro x hx
        rw [List.takeWhile_cons] at hx
        split at hx
        · rename_i ha
          rcases List.mem_cons.1 hx with rfl | hx
          · exact ha
          · exact ih x hx
        · cases hx
    simpa using this _ c hc
theorem trimR_last (l : List UInt8) {c : UInt8} (h : (Lib.trimRightS l [48, 95]).getLast? = some c) : c ≠ 48 ∧ c ≠ 95 := by
  unfold Lib.trimRightS at h
  rw [List.getLast?_reverse] at h
  have := List.head?_dropWhile_not (([48, 95] : List UInt8).contains ·) l.reverse
  rw [h] at this
  simpa using this
theorem trimR_idem (l : List UInt8) : Lib.trimRightS (Lib.trimRightS l [48, 95]) [48, 95] = Lib.trimRightS l [48, 95] := by
  cases hl : Lib.trimRightS l [48, 95] with
  | nil => rfl
  | cons a t =>
    have hne : Lib.trimRightS l [48, 95] ≠ [] := by rw [hl]; simp
    have h2 := trimR_last l (List.getLast?_eq_some_getLast hne)
    rw [← hl]
    obtain ⟨m, c, e⟩ := (nil_or_snoc (Lib.trimRightS l [48, 95])).resolve_left hne
    have hc : c ≠ 48 ∧ c ≠ 95 := trimR_last l (by rw [e]; simp)
    rw [e]
    unfold Lib.trimRightS
    rw [List.reverse_append, List.reverse_singleton, List.singleton_append, List.dropWhile_cons_of_neg]
    · simp
    · simp [hc]
theorem run_ok {b : Nat} {l : List UInt8} (h : runN b false l = l.length) : ∀ c ∈ l, okB b c := fun c hc => runN_all b false l c (by rw [h, List.take_length]; exact hc)
theorem trimR_run {f : List UInt8} (h : runN 0 false f = f.length) : runN 0 false (Lib.trimRightS f [48, 95]) = (Lib.trimRightS f [48, 95]).length := by
  obtain ⟨v, hv, _⟩ := trimR_split f
  refine runN_prefix 0 v _ false (by rw [← hv]; exact h) fun c hc => ?_
  have h2 := trimR_last f hc
  have hm : c ∈ f := by
    rw [hv]
    exact List.mem_append_left _ (List.mem_of_getLast? hc)
  rcases run_ok h c hm with h3 | h3
  · exact h3
  · exact absurd h3 h2.2
theorem zeroOr_ok {w : List UInt8} (h : wholeOk w) : wholeOk (zeroOr w) ∧ zeroOr w ≠ [] ∧ zeroOr (zeroOr w) = zeroOr w := by
  unfold zeroOr
  by_cases e : w = []
  · rw [if_pos e]; exact ⟨.inl rfl, by simp, rfl⟩
  · rw [if_neg e]; exact ⟨h, e, if_neg e⟩
theorem plainL_append (a b : List UInt8) : plainL (a ++ b) = plainL a ++ plainL b := List.filter_append a b
theorem plainL_noughts {v : List UInt8} (h : ∀ c ∈ v, c = 48 ∨ c = 95) : plainL v = List.replicate (plainL v).length 48 := by
  refine List.eq_replicate_iff.2 ⟨rfl, fun c hc => ?_⟩
  obtain ⟨h1, h2⟩ := List.mem_filter.1 hc
  rcases h c h1 with h3 | h3
  · exact h3
  · subst h3; simp at h2
theorem trimLeft_zeroOr (w c : List UInt8) : Lib.trimLeftB (plainL (zeroOr w) ++ c) 48 = Lib.trimLeftB (plainL w ++ c) 48 := by
  unfold zeroOr
  by_cases e : w = []
  · subst e; rfl
  · rw [if_neg e]
theorem trimLeft_noughts (k : Nat) : Lib.trimLeftB (List.replicate k 48) 48 = [] := by
  unfold Lib.trimLeftB
  induction k with
  | zero => rfl
  | succ k ih => rw [List.replicate_succ, List.dropWhile_cons_of_pos (by decide), ih]
theorem trimLeft_append (l : List UInt8) (k : Nat) : Lib.trimLeftB (l ++ List.replicate k 48) 48 = if Lib.trimLeftB l 48 = [] then [] else Lib.trimLeftB l 48 ++ List.replicate k 48 := by
  have h := trimLeft_noughts k
  unfold Lib.trimLeftB at h ⊢
  rw [List.dropWhile_append, h]
  cases List.dropWhile (· == (48 : UInt8)) l with
  | nil => rfl
  | cons a t => rfl
theorem trimRight_append (l : List UInt8) (k : Nat) : Lib.trimRightB (l ++ List.replicate k 48) 48 = Lib.trimRightB l 48 := by
  have h := trimLeft_noughts k
  unfold Lib.trimLeftB at h
  unfold Lib.trimRightB
  rw [List.reverse_append, List.reverse_replicate, List.dropWhile_append, h]
  rfl
theorem ten_same {w : List UInt8} {pt : Bool} {f : List UInt8} {ex minus : Bool} {p : List UInt8} {big : Bool} (pt' : Bool) :
    canonT (tenLit (zeroOr w) pt' (Lib.trimRightS f [48, 95]) ex minus p big) = canonT (tenLit w pt f ex minus p big) := by
  obtain ⟨v, hv, hv48⟩ := trimR_split f
  have hpv := plainL_noughts hv48
  obtain ⟨k, hk⟩ : ∃ k, k = (plainL v).length := ⟨_, rfl⟩
  rw [← hk] at hpv
  have hpf : plainL f = plainL (Lib.trimRightS f [48, 95]) ++ List.replicate k 48 := by rw [← hpv, ← plainL_append, ← hv]
  obtain ⟨F, hF⟩ : ∃ F, F = Lib.trimRightS f [48, 95] := ⟨_, rfl⟩
  rw [← hF] at hpf ⊢
  have hd1 : digsT (tenLit (zeroOr w) pt' F ex minus p big) = Lib.trimLeftB (plainL w ++ plainL F) 48 := trimLeft_zeroOr w (plainL F)
  have hd2 : digsT (tenLit w pt f ex minus p big) = Lib.trimLeftB ((plainL w ++ plainL F) ++ List.replicate k 48) 48 := by
    show Lib.trimLeftB (plainL w ++ plainL f) 48 = _
    rw [hpf, List.append_assoc]
  rw [trimLeft_append] at hd2
  have hlen : (plainL f).length = (plainL F).length + k := by rw [hpf]; simp
  generalize hD : Lib.trimLeftB (plainL w ++ plainL F) 48 = D at *
  by_cases e : D = []
  · rw [if_pos e] at hd2
    unfold canonT
    rw [hd1, hd2, if_pos e, if_pos rfl]
    rfl
  · rw [if_neg e] at hd2
    have hvv : valT (tenLit (zeroOr w) pt' F ex minus p big) = valT (tenLit w pt f ex minus p big) := by
      unfold valT
      rw [hd1, hd2, trimRight_append]
      show moreZ (valN (powT _)) _ ((D.length : Int) - (Lib.trimRightB D 48).length - ((plainL F).length : Nat)) = moreZ (valN (powT _)) _ (((D ++ List.replicate k 48).length : Int) - (Lib.trimRightB D 48).length - ((plainL f).length : Nat))
      rw [hlen, List.length_append, List.length_replicate]
      have e2 : ((D.length + k : Nat) : Int) - (Lib.trimRightB D 48).length - (((plainL F).length + k : Nat) : Int) = (D.length : Int) - (Lib.trimRightB D 48).length - ((plainL F).length : Nat) := by omega
      rw [e2]
      rfl
    have hne : D ++ List.replicate k 48 ≠ [] := fun h => e (List.append_eq_nil_iff.1 h).1
    unfold canonT
    rw [hd1, hd2, if_neg e, if_neg hne, hvv, trimRight_append]
    rfl
theorem partP_text (l : List UInt8) : partP l = ptText (decide (l ≠ [])) l := by
  unfold partP ptText
  by_cases e : l = []
  · rw [if_pos e, if_neg (by simp [e])]
  · rw [if_neg e, if_pos (by simp [e])]
theorem printT_text (w : List UInt8) (pt : Bool) (f : List UInt8) (ex minus : Bool) (p : List UInt8) (big : Bool) :
    printT (tenLit w pt f ex minus p big) = tenText (zeroOr w) (decide (Lib.trimRightS f [48, 95] ≠ [])) (Lib.trimRightS f [48, 95]) ex minus p big := by
  unfold printT tenText
  rw [List.append_assoc, List.append_assoc]
  show zeroOr w ++ (partP (Lib.trimRightS f [48, 95]) ++ _) = _
  rw [partP_text]
  rfl
theorem base10 (w : List UInt8) (pt : Bool) (f : List UInt8) (ex minus : Bool) (p : List UInt8) (big : Bool) : ¬ (tenLit w pt f ex minus p big, true).fst.base = 16 := fun e => absurd (show (10 : Nat) = 16 from e) (by decide)
theorem printOk_ten (s : ByteArray) (ho : isOth s = false) (hr : (readB s).2 = true) : canonB ⟨(printB s).1.toArray⟩ = canonB s ∧ printB ⟨(printB s).1.toArray⟩ = printB s ∧ (printB s).1.length ≤ s.size + 1 := by
  obtain ⟨w, pt, f, ex, minus, p, big, hT, hR, hlen⟩ := Ten.of ho hr
  obtain ⟨z1, z2, z3⟩ := zeroOr_ok hT.whole
  have hnof : f = [] → Lib.trimRightS f [48, 95] = [] := fun e => by subst e; rfl
  have hT2 : Ten (zeroOr w) (decide (Lib.trimRightS f [48, 95] ≠ [])) (Lib.trimRightS f [48, 95]) ex minus p big :=
    ⟨z1, trimR_run hT.part, .inl z2, fun h => by simpa using h, hT.pow, hT.noex, fun h => by
      obtain ⟨h1, h2⟩ := hT.big h
      refine ⟨?_, h2⟩
      rw [hnof (hT.nopt h1)]
      rfl⟩
  have hp : printB s = (tenText (zeroOr w) (decide (Lib.trimRightS f [48, 95] ≠ [])) (Lib.trimRightS f [48, 95]) ex minus p big, 0) := by
    unfold printB
    rw [hR, if_pos rfl, if_neg (base10 _ _ _ _ _ _ _), printT_text]
  have hc : canonB s = (canonT (tenLit w pt f ex minus p big), 0) := by
    unfold canonB
    rw [hR, if_pos rfl, if_neg (base10 _ _ _ _ _ _ _)]
  have hR2 := hT2.read
  refine ⟨?_, ?_, ?_⟩
  · rw [hp, hc]
    show canonB (mkB _) = _
    unfold canonB
    rw [hR2, if_pos rfl, if_neg (base10 _ _ _ _ _ _ _)]
    exact congrArg (·, (0 : Int)) (ten_same _)
  · rw [hp]
    show printB (mkB _) = _
    unfold printB
    rw [hR2, if_pos rfl, if_neg (base10 _ _ _ _ _ _ _)]
    refine congrArg (·, (0 : Int)) ?_
    simp only
    rw [printT_text, z3, trimR_idem]
  · rw [hp]
    simp only
    unfold tenText at hlen ⊢
    rw [List.length_append, List.length_append] at hlen ⊢
    have e1 : (zeroOr w).length ≤ w.length + 1 := by unfold zeroOr; split <;> simp
    have e2 : (ptText (decide (Lib.trimRightS f [48, 95] ≠ [])) (Lib.trimRightS f [48, 95])).length ≤ (ptText pt f).length := by
      obtain ⟨v, hv, _⟩ := trimR_split f
      have hl : (Lib.trimRightS f [48, 95]).length ≤ f.length := by
        have := congrArg List.length hv
        rw [List.length_append] at this
        omega
      rw [ptText_len _ _ (fun h => by simpa using h), ptText_len _ _ hT.nopt]
      cases pt with
      | true => rw [if_pos rfl]; split <;> omega
      | false => rw [hnof (hT.nopt rfl)]; simp
    omega
theorem printOk (s : ByteArray) : PrintOk s := fun hr => by
  cases ho : isOth s with
  | true => exact printOk_oth s ho hr
  | false => exact printOk_ten s ho hr
end Go.Proofs.YthnchejhcmpipaaDoor
