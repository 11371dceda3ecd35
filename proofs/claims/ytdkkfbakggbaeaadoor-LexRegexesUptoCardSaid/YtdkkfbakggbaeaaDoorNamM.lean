/- LexNames: a name is a token by itself just if it is a name: plain, and the function. -/
import Derived.Test.YtdkkfbakggbaeaaDoorNumL
import Derived.Test.YtdkkfbakggbaeaaDoorNamL
namespace Go.Proofs.YtdkkfbakggbaeaaDoor
open Go.RowKit

theorem start_low : ∀ c : Fin 128, startC ((c.val : Nat) : Int) = true → (65 ≤ c.val ∧ c.val ≠ 91 ∧ c.val ≠ 92 ∧ c.val ≠ 93 ∧ c.val ≠ 94 ∧ c.val ≠ 96 ∧ c.val < 123) ∨ c.val = 36 := by decide +kernel
/-- a character that begins a name begins nothing else. -/
theorem start_head {c : UInt8} {l : List UInt8} (_ : 0 < (nx (c :: l)).2) (hs : startC (nx (c :: l)).1 = true) : 128 ≤ c.toNat ∨ ((65 ≤ c.toNat ∧ c.toNat ≠ 91 ∧ c.toNat ≠ 92 ∧ c.toNat ≠ 93 ∧ c.toNat ≠ 94 ∧ c.toNat ≠ 96 ∧ c.toNat < 123) ∨ c.toNat = 36) := by
  by_cases h1 : c.toNat < 128
  · right
    rw [nx_ascii c l h1] at hs
    exact start_low ⟨c.toNat, h1⟩ hs
  · exact .inl (by omega)
theorem oneL_mem {c : Int} : ∀ {l : List Int}, oneL c l = true → c ∈ l
  | [], h => by cases h
  | a :: l, h => by
    rw [oneL] at h
    split at h
    · rename_i e; rw [e]; exact .head _
    · exact .tail _ (oneL_mem h)
theorem gap_start {c : Int} (h : (endsR c || blankR c) = true) : startC c = false := by
  rw [Bool.or_eq_true] at h
  rcases h with h | h
  · have := oneL_mem h
    simp only [endsT, List.mem_cons, List.not_mem_nil, or_false] at this
    rcases this with rfl | rfl | rfl | rfl <;> decide +kernel
  · unfold blankR at h
    rw [Bool.or_eq_true] at h
    rcases h with h | h
    · have := oneL_mem h
      simp only [blankT, List.mem_cons, List.not_mem_nil, or_false] at this
      rcases this with rfl | rfl | rfl | rfl | rfl | rfl | rfl | rfl | rfl | rfl <;> decide +kernel
    · rw [inL] at h
      split at h
      · rename_i hr
        have : c = 8192 ∨ c = 8193 ∨ c = 8194 ∨ c = 8195 ∨ c = 8196 ∨ c = 8197 ∨ c = 8198 ∨ c = 8199 ∨ c = 8200 ∨ c = 8201 ∨ c = 8202 := by omega
        rcases this with rfl | rfl | rfl | rfl | rfl | rfl | rfl | rfl | rfl | rfl | rfl <;> decide +kernel
      · cases h
/-- where neither a blank nor a comment stands at the text's beginning. -/
theorem nxt_zero (s : ByteArray) (goal : Int) (hg : goal = 1 ∨ goal = 2 ∨ goal = 5) (h1 : isGap s.data.toList = false) (h2 : cmKind 0 s.data.toList = 0) :
    nxt s 0 goal = match tokT goal s.data.toList with
      | .fine kind n => .fine kind 0 n false []
      | .bad off code => .bad ((0 + off : Nat) : Int) code := by
  have hb : btw s 0 false = .fine 0 false [] := btw_stay (Nat.zero_le _) false (by rw [List.drop_zero]; exact h1) (by rw [List.drop_zero]; exact h2)
  rw [nxt_ok (by omega), if_neg (by omega), hb]
  simp only [List.drop_zero]
  cases tokT goal s.data.toList <;> rfl
theorem only_of (s : ByteArray) (goal kind : Int) (hg : goal = 1 ∨ goal = 2 ∨ goal = 5) (h1 : isGap s.data.toList = false) (h2 : cmKind 0 s.data.toList = 0) (h3 : tokT goal s.data.toList = .fine kind s.size) : onlyB s goal kind = true := by
  unfold onlyB
  rw [nxt_zero s goal hg h1 h2, h3]
  exact decide_eq_true ⟨rfl, rfl, rfl, rfl⟩
theorem of_only {s : ByteArray} {goal kind : Int} (hg : goal = 1 ∨ goal = 2 ∨ goal = 5) (h : onlyB s goal kind = true) : tokT goal s.data.toList = .fine kind s.size := by
  unfold onlyB at h
  cases hO : nxt s 0 goal with
  | bad place code => rw [hO] at h; cases h
  | fine k q n line cs =>
    rw [hO] at h
    obtain ⟨rfl, rfl, rfl, rfl⟩ := of_decide_eq_true h
    rw [nxt_ok (by omega), if_neg (by omega)] at hO
    cases hb : btw s 0 false with
    | bad place code => rw [hb] at hO; cases hO
    | fine q line' cs' =>
      rw [hb] at hO
      simp only at hO
      cases ht : tokT goal (s.data.toList.drop q) with
      | bad off code => rw [ht] at hO; cases hO
      | fine kd m =>
        rw [ht] at hO
        cases hO
        rw [List.drop_zero] at ht
        exact ht
theorem plain_name {goal : Int} {l : List UInt8} {n : Nat} (h : plainT goal l = .fine 1 n) : n = nameL false l ∧ l ≠ [] := by
  unfold plainT at h
  split at h
  · cases h
  · rename_i hne
    refine ⟨?_, hne⟩
    split at h
    · have := tpTk_kind h; omega
    · split at h
      · unfold priv at h
        split at h
        · cases h
        · split at h
          · cases h
          · have := (aft_fine_inv h).1; omega
      · split at h
        · unfold numT at h
          split at h
          · cases h
          · have := (aft_fine_inv h).1; omega
        · split at h
          · have := (txt_kind2 h).1; omega
          · split at h
            · have := rgTk_kind h; omega
            · split at h
              · exact (aft_fine_inv h).2
              · split at h
                · cases h
                · cases h
theorem plain_priv {goal : Int} {l : List UInt8} {n : Nat} (h : plainT goal l = .fine 2 n) : n = 1 + nameL false (l.drop 1) ∧ nameL false (l.drop 1) ≠ 0 := by
  unfold plainT at h
  split at h
  · cases h
  · split at h
    · have := tpTk_kind h; omega
    · split at h
      · unfold priv at h
        split at h
        · cases h
        · split at h
          · cases h
          · rename_i h0
            exact ⟨(aft_fine_inv h).2, h0⟩
      · split at h
        · unfold numT at h
          split at h
          · cases h
          · have := (aft_fine_inv h).1; omega
        · split at h
          · have := (txt_kind2 h).1; omega
          · split at h
            · have := rgTk_kind h; omega
            · split at h
              · have := (aft_fine_inv h).1; omega
              · split at h
                · cases h
                · cases h
/-- what a name's text is. -/
theorem nameOK_of {l : List UInt8} (h : nameOK l = true) : ∃ c t, l = c :: t ∧ nameL false l = l.length ∧ 0 < (nx l).2 ∧ startC (nx l).1 = true := by
  obtain ⟨h1, h2⟩ := of_decide_eq_true h
  cases l with
  | nil => exact absurd rfl h1
  | cons c t =>
    refine ⟨c, t, rfl, h2, ?_⟩
    by_cases hs : 0 < (nx (c :: t)).2 ∧ startC (nx (c :: t)).1 = true
    · exact hs
    · unfold nameL at h2
      rw [if_neg hs] at h2
      simp at h2
theorem name_gap {l : List UInt8} (h : startC (nx l).1 = true) : isGap l = false := by
  unfold isGap
  cases hg : (endsR (nx l).1 || blankR (nx l).1) with
  | false => rw [Bool.and_false]
  | true => rw [gap_start hg] at h; cases h
theorem partsL_app (x : List UInt8) : ∀ (f : Nat) (l : List UInt8), l.length ≤ f → partsL false l = l.length → partsL true (l ++ x) = l.length + partsL true x
  | 0, l, h, _ => by
    have : l = [] := List.length_eq_zero_iff.1 (by omega)
    subst this
    simp
  | f + 1, l, hf, h => by
    by_cases hl : l = []
    · subst hl
      simp
    · have hpos := List.length_pos_iff.2 hl
      cases hg : goesP false l with
      | false => rw [partsL_no hg] at h; omega
      | true =>
        obtain ⟨n, h1, h2, h3, _⟩ := goesP_pos hg
        rw [partsL_yes hg, h1, Int.toNat_natCast] at h
        have hn := nx_app x (l := l) (by omega)
        have hg2 : goesP true (l ++ x) = true := by
          unfold goesP at hg ⊢
          rw [hn]
          simp only [Bool.and_eq_true, Bool.or_eq_true, Bool.false_and, Bool.false_eq_true, or_false] at hg ⊢
          exact ⟨hg.1, .inl hg.2⟩
        rw [partsL_yes hg2, hn, h1, Int.toNat_natCast, List.drop_append_of_le_length h3, partsL_app x f (l.drop n) (by rw [List.length_drop]; omega) (by rw [List.length_drop]; omega), List.length_drop]
        omega
theorem nameL_app {l x : List UInt8} (h : nameL false l = l.length) (hs : 0 < (nx l).2 ∧ startC (nx l).1 = true) : nameL true (l ++ x) = l.length + partsL true x := by
  unfold nameL at h ⊢
  rw [if_pos hs] at h
  rw [nx_app x hs.1, if_pos hs]
  exact partsL_app x l.length l (Nat.le_refl _) h
theorem aft_end {l : List UInt8} {kind : Int} {n : Nat} (h : n = l.length) : aft l kind n = .fine kind n := aft_fine (by rw [List.drop_of_length_le (by omega)]; decide)
theorem plain_of_name {goal : Int} {l : List UInt8} (h : nameOK l = true) : plainT goal l = .fine 1 l.length := by
  obtain ⟨c, t, rfl, h1, h2, h3⟩ := nameOK_of h
  have hh := start_head h2 h3
  have hne : ∀ a : UInt8, (a.toNat < 36 ∨ (36 < a.toNat ∧ a.toNat < 65) ∨ a.toNat = 96) → c ≠ a := by
    rintro a ha rfl
    omega
  unfold plainT
  rw [if_neg (by simp), if_neg (by rw [pre_head (hne 96 (by decide))]; decide), if_neg (by rw [pre_head (hne 35 (by decide))]; decide), if_neg, if_neg (by rw [pre_head (hne 39 (by decide)), pre_head (hne 34 (by decide))]; decide), if_neg (by rw [pre_head (hne 47 (by decide))]; rintro ⟨_, h⟩; cases h), if_pos (by rw [h1]; simp), h1]
  · exact aft_end rfl
  · rintro (hd | ⟨hd, _⟩)
    · have := of_decide_eq_true hd
      omega
    · rw [pre_head (hne 46 (by decide))] at hd
      cases hd
theorem kind_of_name {l : List UInt8} (h : nameOK l = true) : isGap l = false ∧ cmKind 0 l = 0 := by
  obtain ⟨c, t, rfl, h1, h2, h3⟩ := nameOK_of h
  have hh := start_head h2 h3
  refine ⟨name_gap h3, low_kind c t ?_ ?_⟩
  · rintro rfl; have : (47 : UInt8).toNat = 47 := rfl; omega
  · rintro rfl; have : (35 : UInt8).toNat = 35 := rfl; omega
theorem only_name (s : ByteArray) (goal : Int) (hg : goal = 1 ∨ goal = 2) : onlyB s goal 1 = nameOK s.data.toList := by
  have htk : tokT goal s.data.toList = plainT goal s.data.toList := by
    unfold tokT
    rw [if_neg (by omega), if_neg (by omega), if_neg (by omega)]
  rw [Bool.eq_iff_iff]
  constructor
  · intro h
    have ht := of_only (by omega) h
    rw [htk] at ht
    obtain ⟨h1, h2⟩ := plain_name ht
    exact decide_eq_true ⟨h2, by rw [← h1, ofl]⟩
  · intro h
    obtain ⟨h1, h2⟩ := kind_of_name h
    refine only_of s goal 1 (by omega) h1 h2 ?_
    rw [htk, plain_of_name h, ofl]
theorem only_priv (s : ByteArray) : onlyB (⟨#[35]⟩ ++ s) 1 2 = nameOK s.data.toList := by
  have hl : (⟨#[35]⟩ ++ s : ByteArray).data.toList = 35 :: s.data.toList := by simp [ByteArray.data_append]
  have hsz : (⟨#[35]⟩ ++ s : ByteArray).size = s.data.toList.length + 1 := by rw [← ofl, hl]; simp
  have htk : tokT 1 (35 :: s.data.toList) = plainT 1 (35 :: s.data.toList) := by
    unfold tokT
    rw [if_neg (by omega), if_neg (by omega), if_neg (by omega)]
  rw [Bool.eq_iff_iff]
  constructor
  · intro h
    have ht := of_only (by omega) h
    rw [hl, htk] at ht
    obtain ⟨h1, h2⟩ := plain_priv ht
    simp only [List.drop_succ_cons, List.drop_zero] at h1 h2
    rw [hsz] at h1
    refine decide_eq_true ⟨fun e => h2 (by rw [e]; decide), by omega⟩
  · intro h
    obtain ⟨c, t, hct, h1, h2, h3⟩ := nameOK_of h
    have hh := start_head (c := c) (l := t) (by rw [← hct]; exact h2) (by rw [← hct]; exact h3)
    have hgap : isGap (35 :: s.data.toList) = false := low_gap 35 _ (by decide) (by decide)
    have hkind : cmKind 0 (35 :: s.data.toList) = 0 := by
      unfold cmKind
      rw [pre_head (by decide), pre_head (by decide), hct]
      have hx : Lib.hasPrefix (35 :: c :: t) [35, 33] = false := by
        show ((35 : UInt8) == 35 && ((33 : UInt8) == c && true)) = false
        rw [show ((33 : UInt8) == c) = false by rw [beq_eq_false_iff_ne]; rintro rfl; have : (33 : UInt8).toNat = 33 := rfl; omega]
        rfl
      rw [hx]
      rfl
    refine only_of _ 1 2 (by omega) (by rw [hl]; exact hgap) (by rw [hl]; exact hkind) ?_
    rw [hl, htk, hsz]
    unfold plainT
    rw [if_neg (by simp), if_neg (by rw [pre_head (by decide)]; decide), if_pos (show Lib.hasPrefix (35 :: s.data.toList) [35] = true from rfl)]
    unfold priv
    simp only [List.drop_succ_cons, List.drop_zero]
    have hpos : 0 < s.data.toList.length := by rw [hct]; simp
    rw [if_neg (by omega), if_neg (by omega), h1, Nat.add_comm]
    exact aft_end (by simp)
theorem tag_of_name {l x : List UInt8} (h : nameOK l = true) : tagT (l ++ x) = aft (l ++ x) 1 (l.length + partsL true x) ∧ isGap (l ++ x) = false ∧ cmKind 0 (l ++ x) = 0 := by
  obtain ⟨c, t, rfl, h1, h2, h3⟩ := nameOK_of h
  have hh := start_head h2 h3
  have hn := nameL_app (x := x) h1 ⟨h2, h3⟩
  have hna := nx_app x h2
  have hne : ∀ a : UInt8, (a.toNat < 36 ∨ (36 < a.toNat ∧ a.toNat < 65) ∨ a.toNat = 96 ∨ a.toNat = 123) → c ≠ a := by
    rintro a ha rfl
    omega
  refine ⟨?_, name_gap (by rw [hna]; exact h3), low_kind c (t ++ x) (hne 47 (by decide)) (hne 35 (by decide))⟩
  rw [List.cons_append] at hn ⊢
  rw [tagT, if_neg, if_neg, if_pos, hn]
  · rw [hn]; simp
  · unfold tagP
    rw [show (c == 60) = false by rw [beq_eq_false_iff_ne]; exact hne 60 (by decide), show (c == 62) = false by rw [beq_eq_false_iff_ne]; exact hne 62 (by decide), show (c == 47) = false by rw [beq_eq_false_iff_ne]; exact hne 47 (by decide), show (c == 123) = false by rw [beq_eq_false_iff_ne]; exact hne 123 (by decide), show (c == 61) = false by rw [beq_eq_false_iff_ne]; exact hne 61 (by decide), show (c == 46) = false by rw [beq_eq_false_iff_ne]; exact hne 46 (by decide), show (c == 58) = false by rw [beq_eq_false_iff_ne]; exact hne 58 (by decide)]
    decide
  · rintro (h | h)
    · exact hne 39 (by decide) h
    · exact hne 34 (by decide) h
theorem only_tag (s x : ByteArray) (h : nameOK s.data.toList = true) (hx : partsL true x.data.toList = x.size) : onlyB (s ++ x) 5 1 = true := by
  have hl : (s ++ x : ByteArray).data.toList = s.data.toList ++ x.data.toList := by simp [ByteArray.data_append]
  have hsz : (s ++ x : ByteArray).size = s.data.toList.length + x.size := by rw [← ofl, hl, List.length_append, ofl x]
  obtain ⟨h1, h2, h3⟩ := tag_of_name (x := x.data.toList) h
  refine only_of _ 5 1 (by omega) (by rw [hl]; exact h2) (by rw [hl]; exact h3) ?_
  rw [hl, hsz]
  unfold tokT
  rw [if_neg (by omega), if_neg (by omega), if_pos rfl, h1, hx]
  exact aft_end (by rw [List.length_append, ofl x])
end Go.Proofs.YtdkkfbakggbaeaaDoor
