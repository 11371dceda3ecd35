/- LexStrings: a text literal is a token by itself just if it is one: plain, and the function. -/
import Derived.Test.YtdkkfbakggbaeaaDoorNumL
namespace Go.Proofs.YtdkkfbakggbaeaaDoor
open Go.RowKit

/-- a byte that the reader passes on its way to a text's end. -/
def ordB (q c : UInt8) : Prop := c ≠ q ∧ c ≠ 10 ∧ c ≠ 13 ∧ c ≠ 92
theorem sc_ord (q : UInt8) : ∀ (n : Nat) (l : List UInt8), n ≤ l.length → (∀ i, i < n → ∃ c, l[i]? = some c ∧ ordB q c) → sc q l = n + sc q (l.drop n)
  | 0, l, _, _ => by rw [List.drop_zero, Nat.zero_add]
  | n + 1, [], h, _ => by simp at h
  | n + 1, c :: l, h, ho => by
    obtain ⟨c', h1, h2⟩ := ho 0 (by omega)
    have e : c = c' := by simpa using h1
    subst e
    rw [sc_step, if_neg (by rintro (h | h | h); exact h2.1 h; exact h2.2.1 h; exact h2.2.2.1 h), if_neg h2.2.2.2, List.drop_succ_cons, sc_ord q n l (by simpa using h) (fun i hi => by
      obtain ⟨d, k1, k2⟩ := ho (i + 1) (by omega)
      exact ⟨d, by simpa using k1, k2⟩)]
    omega
theorem ord_high {q c : UInt8} (hq : q = 39 ∨ q = 34) (h : 93 ≤ c.toNat) : ordB q c := by
  refine ⟨?_, ?_, ?_, ?_⟩
  · rintro rfl
    rcases hq with rfl | rfl <;> exact absurd h (by decide)
  · rintro rfl; exact absurd h (by decide)
  · rintro rfl; exact absurd h (by decide)
  · rintro rfl; exact absurd h (by decide)
theorem ord_hex {q c : UInt8} (hq : q = 39 ∨ q = 34) (h : 0 ≤ hexD c) : ordB q c := by
  unfold hexD at h
  have h3 : 48 ≤ c.toNat ∧ c.toNat ≠ 92 := by
    split at h
    · omega
    · split at h
      · omega
      · split at h
        · omega
        · omega
  refine ⟨?_, ?_, ?_, ?_⟩
  · rintro rfl
    rcases hq with rfl | rfl <;> exact absurd h3.1 (by decide)
  · rintro rfl; exact absurd h3.1 (by decide)
  · rintro rfl; exact absurd h3.1 (by decide)
  · rintro rfl; exact absurd h3.2 (by decide)
/-- the bytes of a character but the first, which may be any. -/
theorem nx_bytes {c : UInt8} {l : List UInt8} {n : Nat} (h : (nx (c :: l)).2 = (n : Int)) : (c.toNat < 128 ∧ n = 1 ∧ (nx (c :: l)).1 = ((c.toNat : Nat) : Int)) ∨ (128 ≤ c.toNat ∧ 128 ≤ (nx (c :: l)).1 ∧ ∀ i, i < n → ∃ d, (c :: l)[i]? = some d ∧ 128 ≤ d.toNat) := by
  by_cases h1 : c.toNat < 128
  · left
    rw [nx_ascii c l h1] at h ⊢
    exact ⟨h1, by omega, rfl⟩
  · right
    have hn : ¬ (nx (c :: l)).2 < 0 := by omega
    unfold nx at h ⊢
    by_cases e : (Lib.decodeGo ⟨(c :: l).toArray⟩).1 = 65533 ∧ (Lib.decodeGo ⟨(c :: l).toArray⟩).2 = 1
    · simp only [if_pos e] at h
      omega
    · simp only [if_neg e] at h
      have hs : 0 < (⟨(c :: l).toArray⟩ : ByteArray).size := by show 0 < (c :: l).length; simp
      have hd : Lib.decodeGo ⟨(c :: l).toArray⟩ = Utf8.decode ⟨(c :: l).toArray⟩ 0 := by
        unfold Lib.decodeGo
        rw [if_neg (by omega)]
      simp only [if_neg e]
      rw [hd] at h ⊢
      obtain ⟨_, _, h3, h4⟩ := decode_wide ⟨(c :: l).toArray⟩ 0 hs (by show 128 ≤ c.toNat; omega)
      refine ⟨by omega, by omega, fun i hi => ?_⟩
      obtain ⟨hj, h5⟩ := h4 i (by omega)
      have hlen : i < (c :: l).length := by
        have : 0 + i < (c :: l).length := hj
        omega
      refine ⟨(c :: l)[i], List.getElem?_eq_getElem hlen, ?_⟩
      have e2 : (⟨(c :: l).toArray⟩ : ByteArray)[0 + i]'hj = (c :: l)[i] := by
        simp only [Nat.zero_add]
        rfl
      rw [← e2]
      exact h5
theorem digN_hex : ∀ (m : Nat) (l : List UInt8), (digN m l).1 = true → (digN m l).2 = m ∧ m ≤ l.length ∧ ∀ i, i < m → ∃ d, l[i]? = some d ∧ 0 ≤ hexD d
  | 0, l, _ => ⟨rfl, Nat.zero_le _, fun i hi => absurd hi (by omega)⟩
  | m + 1, [], h => by cases h
  | m + 1, c :: l, h => by
    rw [digN] at h ⊢
    split at h
    · rename_i hc
      rw [if_pos hc]
      obtain ⟨h1, h2, h3⟩ := digN_hex m l h
      refine ⟨by simp only [up]; omega, by simp only [List.length_cons]; omega, fun i hi => ?_⟩
      cases i with
      | zero => exact ⟨c, rfl, hc⟩
      | succ i => exact h3 i (by omega)
    · cases h
theorem brcN_hex : ∀ (l : List UInt8) (x : Int) (f : Bool), (brcN x f l).1 = true → ∀ i, i < (brcN x f l).2 → ∃ d, l[i]? = some d ∧ (0 ≤ hexD d ∨ d = 125)
  | [], _, _, h => by cases h
  | c :: l, x, f, h => by
    intro i hi
    rw [brcN] at h hi
    split at h
    · rename_i hc
      rw [if_pos hc] at hi
      cases i with
      | zero => exact ⟨c, rfl, .inl hc⟩
      | succ i => exact brcN_hex l _ _ h i (by simp only [up] at hi; omega)
    · rename_i hc
      rw [if_neg hc] at hi
      split at h
      · cases h
      · rename_i h2
        rw [if_neg h2] at hi
        have : i = 0 := by omega
        subst this
        exact ⟨c, rfl, .inr (Decidable.byContradiction fun h => h2 (.inl h))⟩
theorem pre13 (c : UInt8) (l : List UInt8) : Lib.hasPrefix (c :: l) [13, 10] = ((13 : UInt8) == c && Lib.hasPrefix l [10]) := rfl
theorem esc_sc {q : UInt8} (hq : q = 39 ∨ q = 34) (l : List UInt8) (k : Nat) (h : escS (92 :: l) = (true, k)) : sc q (92 :: l) = k + sc q ((92 :: l).drop k) := by
  have hq92 : ¬ ((92 : UInt8) = q ∨ (92 : UInt8) = 10 ∨ (92 : UInt8) = 13) := by
    rintro (h | h | h)
    · rcases hq with rfl | rfl <;> exact absurd h (by decide)
    · exact absurd h (by decide)
    · exact absurd h (by decide)
  rw [sc_step, if_neg hq92, if_pos rfl]
  unfold escS at h
  simp only [List.drop_succ_cons, List.drop_zero] at h
  by_cases hn0 : (nx l).2 ≤ 0
  · rw [if_pos hn0] at h; cases h
  · rw [if_neg hn0] at h
    obtain ⟨n, hn, hnl, _, hne⟩ := nx_pos (l := l) (by omega)
    cases l with
    | nil => exact absurd (show (nx []).2 ≤ 0 by decide) hn0
    | cons b r =>
      have hb := nx_bytes hn
      have hone : (nx (b :: r)).1 < 128 → b.toNat < 128 ∧ n = 1 ∧ (nx (b :: r)).1 = ((b.toNat : Nat) : Int) := fun hc => by
        rcases hb with hb | ⟨_, hb, _⟩
        · exact hb
        · omega
      by_cases h19 : 49 ≤ (nx (b :: r)).1 ∧ (nx (b :: r)).1 ≤ 57
      · rw [if_pos h19] at h; cases h
      · rw [if_neg h19] at h
        by_cases h48 : (nx (b :: r)).1 = 48
        · rw [if_pos h48] at h
          obtain ⟨_, _, hb1⟩ := hone (by omega)
          split at h
          · cases h
          · cases h
            rw [pre13, show ((13 : UInt8) == b) = false by rw [beq_eq_false_iff_ne]; rintro rfl; have h13 : (13 : UInt8).toNat = 13 := rfl; omega]
            rfl
        · rw [if_neg h48] at h
          by_cases h120 : (nx (b :: r)).1 = 120
          · rw [if_pos h120] at h
            obtain ⟨_, _, hb1⟩ := hone (by omega)
            have hd1 : (digN 2 (List.drop 1 (b :: r))).1 = true := congrArg Prod.fst h
            obtain ⟨h1, h2, h3⟩ := digN_hex 2 _ hd1
            have hk : 2 + (digN 2 (List.drop 1 (b :: r))).2 = k := congrArg Prod.snd h
            rw [h1] at hk
            subst hk
            rw [pre13, show ((13 : UInt8) == b) = false by rw [beq_eq_false_iff_ne]; rintro rfl; have h13 : (13 : UInt8).toNat = 13 := rfl; omega]
            simp only [List.drop_succ_cons, List.drop_zero, Bool.false_and, Bool.false_eq_true, if_false] at h2 h3 ⊢
            rw [sc_ord q 2 r h2 (fun i hi => by obtain ⟨d, k1, k2⟩ := h3 i hi; exact ⟨d, k1, ord_hex hq k2⟩)]
            omega
          · rw [if_neg h120] at h
            by_cases h117 : (nx (b :: r)).1 = 117
            · rw [if_pos h117] at h
              obtain ⟨_, _, hb1⟩ := hone (by omega)
              rw [pre13, show ((13 : UInt8) == b) = false by rw [beq_eq_false_iff_ne]; rintro rfl; have h13 : (13 : UInt8).toNat = 13 := rfl; omega]
              simp only [List.drop_succ_cons, List.drop_zero, Bool.false_and, Bool.false_eq_true, if_false] at h ⊢
              split at h
              · rename_i hbr
                have hd1 : (brcN 0 true (List.drop 1 r)).1 = true := congrArg Prod.fst h
                have hk : 3 + (brcN 0 true (List.drop 1 r)).2 = k := congrArg Prod.snd h
                have hle := brcN_le (List.drop 1 r) 0 true
                have hhex := brcN_hex _ _ _ hd1
                cases r with
                | nil => cases hbr
                | cons a r2 =>
                  have ha : ((123 : UInt8) == a && true) = true := hbr
                  rw [Bool.and_true] at ha
                  have ha2 := eq_of_beq ha
                  subst ha2
                  simp only [List.drop_succ_cons, List.drop_zero] at hk hle hhex
                  subst hk
                  rw [sc_ord q (1 + (brcN 0 true r2).2) (123 :: r2) (by simp only [List.length_cons]; omega) (fun i hi => by
                    cases i with
                    | zero => exact ⟨123, rfl, ord_high hq (by decide)⟩
                    | succ i =>
                      obtain ⟨d, k1, k2⟩ := hhex i (by omega)
                      refine ⟨d, by simpa using k1, ?_⟩
                      rcases k2 with k2 | k2
                      · exact ord_hex hq k2
                      · subst k2; exact ord_high hq (by decide))]
                  rw [show 3 + (brcN 0 true r2).2 = (1 + (brcN 0 true r2).2) + 1 + 1 by omega, List.drop_succ_cons, List.drop_succ_cons]
                  omega
              · have hd1 : (digN 4 r).1 = true := congrArg Prod.fst h
                obtain ⟨h1, h2, h3⟩ := digN_hex 4 _ hd1
                have hk : 2 + (digN 4 r).2 = k := congrArg Prod.snd h
                rw [h1] at hk
                subst hk
                rw [sc_ord q 4 r h2 (fun i hi => by obtain ⟨d, k1, k2⟩ := h3 i hi; exact ⟨d, k1, ord_hex hq k2⟩)]
                rw [show (2 + 4 : Nat) = 4 + 1 + 1 from rfl, List.drop_succ_cons, List.drop_succ_cons]
                omega
            · rw [if_neg h117] at h
              simp only [List.drop_succ_cons, List.drop_zero] at h ⊢
              by_cases hcr : (nx (b :: r)).1 = 13 ∧ Lib.hasPrefix r [10] = true
              · rw [if_pos hcr] at h
                cases h
                obtain ⟨_, _, hb1⟩ := hone (by omega)
                have hb13 : b = 13 := UInt8.toNat.inj (by rw [show b.toNat = 13 by omega]; rfl)
                subst hb13
                rw [pre13, hcr.2]
                rfl
              · rw [if_neg hcr] at h
                cases h
                have hnp : Lib.hasPrefix (b :: r) [13, 10] = false := by
                  rw [pre13]
                  by_cases hb13 : b = 13
                  · subst hb13
                    have hc : (nx ((13 : UInt8) :: r)).1 = 13 := by rw [nx_ascii 13 r (by decide)]; rfl
                    cases hp : Lib.hasPrefix r [10] with
                    | false => rfl
                    | true => exact absurd ⟨hc, hp⟩ hcr
                  · rw [show ((13 : UInt8) == b) = false by rw [beq_eq_false_iff_ne]; exact fun e => hb13 e.symm]
                    rfl
                rw [hnp, hn, Int.toNat_natCast]
                simp only [Bool.false_eq_true, if_false]
                have hn1 : 1 ≤ n := by omega
                simp only [List.length_cons] at hnl
                rw [sc_ord q (n - 1) r (by omega) (fun i hi => by
                  rcases hb with ⟨_, hb, _⟩ | ⟨_, _, hb⟩
                  · omega
                  · obtain ⟨d, k1, k2⟩ := hb (i + 1) (by omega)
                    exact ⟨d, by simpa using k1, ord_high hq (by omega)⟩)]
                rw [show 1 + n = (n - 1) + 1 + 1 by omega, List.drop_succ_cons, List.drop_succ_cons]
                omega
theorem prtF_sc {q : UInt8} (hq : q = 39 ∨ q = 34) : ∀ (f : Nat) (l : List UInt8) (m : Nat), l.length ≤ f → prtF f q l = (true, m) → m < l.length → sc q l = m ∧ l[m]? = some q
  | 0, l, m, h, _, hm => by omega
  | f + 1, [], m, _, _, hm => absurd hm (by simp)
  | f + 1, c :: l, m, hf, h, hm => by
    rw [prtF] at h
    simp only [List.length_cons] at hf
    by_cases hc : c = q
    · rw [if_pos hc] at h
      cases h
      subst hc
      exact ⟨by rw [sc_step, if_pos (.inl rfl)], rfl⟩
    · rw [if_neg hc] at h
      by_cases hbad : (nx (c :: l)).2 < 0 ∨ (nx (c :: l)).1 = 10 ∨ (nx (c :: l)).1 = 13
      · rw [if_pos hbad] at h; cases h
      · rw [if_neg hbad] at h
        obtain ⟨n, hn, hnl, hn0⟩ := nx_cons_pos (fun h => hbad (.inl h))
        have hb := nx_bytes hn
        by_cases h92 : (nx (c :: l)).1 = 92
        · rw [if_pos h92] at h
          have hc92 : c = 92 := by
            rcases hb with ⟨_, _, hb⟩ | ⟨_, hb, _⟩
            · exact UInt8.toNat.inj (by rw [show c.toNat = 92 by omega]; rfl)
            · omega
          subst hc92
          split at h
          · rename_i he
            have hel := escS_le (l := 92 :: l) (by simp)
            obtain ⟨k, hk⟩ : ∃ k, escS (92 :: l) = (true, k) := ⟨(escS (92 :: l)).2, by rw [← he]⟩
            rw [hk] at h hel
            simp only [List.length_cons] at hel hm
            have h1 : (prtF f q ((92 :: l).drop k)).1 = true := congrArg Prod.fst h
            have h2 : k + (prtF f q ((92 :: l).drop k)).2 = m := congrArg Prod.snd h
            obtain ⟨h3, h4⟩ := prtF_sc hq f ((92 :: l).drop k) (prtF f q ((92 :: l).drop k)).2 (by rw [List.length_drop, List.length_cons]; omega) (by rw [← h1]) (by rw [List.length_drop, List.length_cons]; omega)
            refine ⟨by rw [esc_sc hq l k hk, h3]; exact h2, ?_⟩
            rw [← h2, ← List.getElem?_drop]
            exact h4
          · rename_i he
            rw [h] at he
            exact absurd rfl he
        · rw [if_neg h92] at h
          rw [hn, Int.toNat_natCast] at h
          simp only [List.length_cons] at hm
          have h1 : (prtF f q ((c :: l).drop n)).1 = true := congrArg Prod.fst h
          have h2 : n + (prtF f q ((c :: l).drop n)).2 = m := congrArg Prod.snd h
          have hord : ∀ i, i < n → ∃ d, (c :: l)[i]? = some d ∧ ordB q d := by
            intro i hi
            rcases hb with ⟨hb1, hb2, hb3⟩ | ⟨_, _, hb⟩
            · have : i = 0 := by omega
              subst this
              refine ⟨c, rfl, hc, ?_, ?_, ?_⟩
              · rintro rfl; exact hbad (.inr (.inl hb3))
              · rintro rfl; exact hbad (.inr (.inr hb3))
              · rintro rfl; exact h92 hb3
            · obtain ⟨d, k1, k2⟩ := hb i hi
              exact ⟨d, k1, ord_high hq (by omega)⟩
          obtain ⟨h3, h4⟩ := prtF_sc hq f ((c :: l).drop n) (prtF f q ((c :: l).drop n)).2 (by rw [List.length_drop, List.length_cons]; omega) (by rw [← h1]) (by rw [List.length_drop, List.length_cons]; omega)
          refine ⟨by rw [sc_ord q n (c :: l) (by simpa using hnl) hord, h3]; exact h2, ?_⟩
          rw [← h2, ← List.getElem?_drop]
          exact h4
theorem str_whole {l : List UInt8} (h : (strC l).1 = true) : txtL l = l.length ∧ ∃ q t, l = q :: t ∧ (q = 39 ∨ q = 34) := by
  cases l with
  | nil => cases h
  | cons q t =>
    rw [strC] at h
    split at h
    · cases h
    · rename_i hqq
      have hq : q = 39 ∨ q = 34 := by
        by_cases h1 : q = 39
        · exact .inl h1
        · by_cases h2 : q = 34
          · exact .inr h2
          · exact absurd ⟨h1, h2⟩ hqq
      split at h
      · cases h
      · rename_i h1
        split at h
        · rename_i h2
          have h3 : (prt q t).1 = true := by cases hp : (prt q t).1 with | true => rfl | false => exact absurd hp h1
          obtain ⟨h4, h5⟩ := prtF_sc hq t.length t (prt q t).2 (Nat.le_refl _) (by show prt q t = _; rw [← h3]) (by omega)
          refine ⟨?_, q, t, rfl, hq⟩
          rw [txtL, if_pos, h4, List.length_cons]
          · omega
          · refine ⟨by omega, ?_⟩
            rw [h4, List.head?_drop]
            exact h5
        · cases h
theorem plain_str {goal : Int} {l : List UInt8} {n : Nat} (h : plainT goal l = .fine 4 n) : n = txtL l ∧ (strC (l.take (txtL l))).1 = true := by
  unfold plainT at h
  split at h
  · cases h
  · split at h
    · have := tpTk_kind h; omega
    · split at h
      · unfold priv at h
        split at h
        · cases h
        · split at h
          · cases h
          · have := (aft_fine_inv h).1; omega
      · split at h
        · unfold numT at h
          split at h
          · cases h
          · have := (aft_fine_inv h).1; omega
        · split at h
          · exact (txt_kind2 h).2
          · split at h
            · have := rgTk_kind h; omega
            · split at h
              · have := (aft_fine_inv h).1; omega
              · split at h
                · cases h
                · cases h
theorem only_str (s : ByteArray) : onlyB s 2 4 = (strC s.data.toList).1 := by
  rw [Bool.eq_iff_iff]
  constructor
  · intro h
    unfold onlyB at h
    cases hO : nxt s 0 2 with
    | bad place code => rw [hO] at h; cases h
    | fine k q n line cs =>
      rw [hO] at h
      obtain ⟨rfl, rfl, rfl, rfl⟩ := of_decide_eq_true h
      rw [nxt_ok (by omega), if_neg (by omega)] at hO
      cases hb : btw s 0 false with
      | bad place code => rw [hb] at hO; cases hO
      | fine q line' cs' =>
        rw [hb] at hO
        simp only at hO
        cases ht : tokT 2 (s.data.toList.drop q) with
        | bad off code => rw [ht] at hO; cases hO
        | fine kd m =>
          rw [ht] at hO
          cases hO
          rw [List.drop_zero] at ht
          unfold tokT at ht
          rw [if_neg (by omega), if_neg (by omega), if_neg (by omega)] at ht
          obtain ⟨h1, h2⟩ := plain_str ht
          rw [← h1, List.take_of_length_le (by rw [ofl]; exact Nat.le_refl _)] at h2
          exact h2
  · intro h
    obtain ⟨h1, q, t, hl, hq⟩ := str_whole h
    have hqr : 33 ≤ q.toNat ∧ q.toNat < 46 ∧ q ≠ 35 := by rcases hq with rfl | rfl <;> decide
    have hne : ∀ a : UInt8, a.toNat = 35 ∨ 46 ≤ a.toNat → q ≠ a := by
      rintro a ha rfl
      rcases ha with ha | ha
      · exact hqr.2.2 (UInt8.toNat.inj ha)
      · omega
    have hlen : (q :: t).length = s.size := by rw [← hl, ofl]
    rw [hl, hlen] at h1
    have hpl : plainT 2 (q :: t) = .fine 4 s.size := by
      unfold plainT
      rw [if_neg (by simp), if_neg (by rw [pre_head (hne 96 (by decide))]; decide), if_neg (by rw [pre_head (hne 35 (by decide))]; decide), if_neg, if_pos]
      · unfold txt
        rw [h1, List.take_of_length_le (by omega), if_pos (by rw [← hl]; exact h)]
      · rcases hq with rfl | rfl
        · exact .inl rfl
        · exact .inr rfl
      · rintro (hd | ⟨hd, _⟩)
        · have := of_decide_eq_true hd
          omega
        · rw [pre_head (hne 46 (by decide))] at hd
          cases hd
    unfold onlyB
    rw [nxt_low s 2 (.inr rfl) q t hl hqr.1 (by omega) (hne 47 (by decide)) (hne 35 (by decide)), hpl]
    exact decide_eq_true ⟨rfl, rfl, rfl, rfl⟩
set_option maxRecDepth 20000 in
set_option maxHeartbeats 1000000 in
theorem strings_any (s : ByteArray) (w : World) (hs : s.size ≤ 16777216) (hX : Lx w) :
    Calls Tryd.prog 7 #[.string s] w fun e w' => e = .returned (.bool true) ∧ Below w.heap.size w w' := by
  have hA := lawake_any w hX
  have hC := fun W h => scheck_any s W hs h
  have hO := fun W h => only_any s 2 4 W hs h
  rw [only_str s] at hO
  generalize strC s.data.toList = o at *
  obtain ⟨r, a⟩ := o
  simp only at hC hO
  have HA := Lib.hid hA
  have HX := Lib.hid hX
  cases r with
  | true =>
    simp only [if_true] at hC
    have HC := Lib.hid hC
    have HO := Lib.hid hO
    clear hA hC hO hX
    go_enter Tryd.func7, Tryd.ntmps7
    go_upto_region 3 with (go_at_call 13; refine HA.out.mono ?_; rintro e w1 ⟨rfl, hb1⟩)
    go_upto_region 4 with (go_at_call 16; refine (HC.out _ (HX.out.bel hb1).tabs).mono ?_; rintro e w2 ⟨rfl, hb2⟩)
    go_wp2_with (first | (go_at_call 17; refine (HO.out _ ((HX.out.bel hb1).bel hb2)).mono ?_; rintro e w3 ⟨rfl, hb3⟩) | (go_at_call 15; refine (lnum_any _ _).mono ?_; rintro e w' ⟨rfl, rfl⟩))
    go_ret
    exact ⟨rfl, bel_next (bel_next hb1 hb2) hb3⟩
  | false =>
    simp only [Bool.false_eq_true, if_false] at hC
    have HC := Lib.hid hC
    have HO := Lib.hid hO
    clear hA hC hO hX
    go_enter Tryd.func7, Tryd.ntmps7
    go_upto_region 3 with (go_at_call 13; refine HA.out.mono ?_; rintro e w1 ⟨rfl, hb1⟩)
    go_upto_region 4 with (go_at_call 16; refine (HC.out _ (HX.out.bel hb1).tabs).mono ?_; rintro e w2 ⟨rfl, hb2⟩)
    go_wp2_with (first | (go_at_call 17; refine (HO.out _ ((HX.out.bel hb1).bel hb2)).mono ?_; rintro e w3 ⟨rfl, hb3⟩) | (go_at_call 15; refine (lnum_any _ _).mono ?_; rintro e w' ⟨rfl, rfl⟩))
    go_ret
    exact ⟨rfl, bel_next (bel_next hb1 hb2) hb3⟩
end Go.Proofs.YtdkkfbakggbaeaaDoor
