/- Plain laws of JsxPlain: bytes without & stand for themselves; the answer on a valid text is valid. No program in sight. -/
import Derived.Test.YtcflmpnkmchdoaaDoorP
import Derived.Test.YtcflmpnkmchdoaaDoorL
import Derived.Lib.ValidLaws
import Derived.Lib.TrimUEq
import Derived.Lib.TrimAscii
import Derived.Lib.MapLaws
namespace Go.Proofs.YtcflmpnkmchdoaaDoor

/-- bytes without & are copied. -/
theorem ents_plain : ∀ (p q : List UInt8) (f k : Nat), (∀ c ∈ p, c ≠ 38) → p.length ≤ f → ents f (p ++ q) k = pre p (ents (f - p.length) q (k + p.length))
  | [], q, f, k, _, _ => by rw [pre_nil]; rfl
  | c :: p, q, f, k, h, hf => by
    simp only [List.length_cons] at hf
    obtain ⟨f, rfl⟩ : ∃ g, f = g + 1 := ⟨f - 1, by omega⟩
    rw [List.cons_append, ents_other _ _ _ _ (h c (by simp)), ents_plain p q f (k + 1) (fun d hd => h d (by simp [hd])) (by omega), pre_pre]
    simp only [List.length_cons]
    rw [show f + 1 - (p.length + 1) = f - p.length by omega, show k + (p.length + 1) = k + 1 + p.length by omega]
    rfl
/-- what stands ahead moves the place. -/
def shift (d : Nat) : Nat ⊕ List UInt8 → Nat ⊕ List UInt8
  | .inl a => .inl (a + d)
  | .inr l => .inr l
theorem shift_pre (d : Nat) (p : List UInt8) (x : Nat ⊕ List UInt8) : shift d (pre p x) = pre p (shift d x) := by cases x <;> rfl
theorem ents_shift (d : Nat) : ∀ (f : Nat) (l : List UInt8) (k : Nat), ents f l (k + d) = shift d (ents f l k) := by
  intro f
  induction f with
  | zero => intro l k; rfl
  | succ f ih =>
    intro l k
    cases l with
    | nil => rfl
    | cons c l =>
      by_cases hc : c = 38
      · subst hc
        cases h2 : (entAt l).2.2 with
        | false => rw [ents_bad _ _ _ h2, ents_bad _ _ _ h2]; rfl
        | true =>
          cases h1 : (entAt l).2.1 with
          | true =>
            rw [ents_is _ _ _ h2 h1, ents_is _ _ _ h2 h1, shift_pre, ← ih]
            congr 2; omega
          | false =>
            rw [ents_none _ _ _ h2 h1, ents_none _ _ _ h2 h1, shift_pre, ← ih]
            congr 2; omega
      · rw [ents_other _ _ _ _ hc, ents_other _ _ _ _ hc, shift_pre, ← ih]
        congr 2; omega
theorem entities_plain {s : List UInt8} (h : ∀ c ∈ s, c ≠ 38) : entities s = .inr s := by
  have := ents_plain s [] s.length 0 h (Nat.le_refl _)
  rw [List.append_nil, ents_nil] at this
  unfold entities
  rw [this]
  simp [pre]
theorem entities_behind {s : List UInt8} (t : List UInt8) (h : ∀ c ∈ s, c ≠ 38) : entities (s ++ t) = pre s (shift s.length (entities t)) := by
  unfold entities
  rw [ents_plain s t _ 0 h (by simp), ents_shift s.length]
  congr 3
  simp

theorem toNat_of (n : Nat) (h : n < 256) : (UInt8.ofNat n).toNat = n := by rw [UInt8.toNat_ofNat']; omega
theorem enc_list (r : Nat) : Lib.encodeRune r = (Utf8.encode (r : Int)).data.toList := (encode_bytes r).symm
/-- a character's bytes are read as that character. -/
theorem decode_enc1 (r : Nat) (h : r < 128) (b : List UInt8) : Lib.decodeL ([UInt8.ofNat r] ++ b) = (r, 1) := by
  have := Lib.decodeL_ascii (UInt8.ofNat r) b (by rw [toNat_of r (by omega)]; omega)
  rw [toNat_of r (by omega)] at this
  exact this
theorem decode_enc2 (r : Nat) (h1 : 128 ≤ r) (h2 : r < 2048) (b : List UInt8) : Lib.decodeL ([UInt8.ofNat (192 + r / 64), UInt8.ofNat (128 + r % 64)] ++ b) = (r, 2) := by
  rw [Lib.decodeL_N]
  show Lib.decodeN (b.length + 1 + 1) (UInt8.ofNat (192 + r / 64)).toNat (UInt8.ofNat (128 + r % 64)).toNat _ _ = _
  rw [toNat_of _ (by omega), toNat_of _ (by omega)]
  unfold Lib.decodeN
  rw [if_neg (by omega), if_pos (by omega), if_pos (by omega)]
  congr 1
  omega
theorem decode_enc3 (r : Nat) (h1 : 2048 ≤ r) (h2 : r < 65536) (hv : r < 55296 ∨ 57344 ≤ r) (b : List UInt8) : Lib.decodeL ([UInt8.ofNat (224 + r / 4096), UInt8.ofNat (128 + r / 64 % 64), UInt8.ofNat (128 + r % 64)] ++ b) = (r, 3) := by
  rw [Lib.decodeL_N]
  show Lib.decodeN (b.length + 1 + 1 + 1) (UInt8.ofNat (224 + r / 4096)).toNat (UInt8.ofNat (128 + r / 64 % 64)).toNat (UInt8.ofNat (128 + r % 64)).toNat _ = _
  rw [toNat_of _ (by omega), toNat_of _ (by omega), toNat_of _ (by omega)]
  unfold Lib.decodeN
  have e : (224 + r / 4096) % 16 * 4096 + (128 + r / 64 % 64) % 64 * 64 + (128 + r % 64) % 64 = r := by omega
  rw [if_neg (by omega), if_neg (by omega), if_pos (by omega), e, if_pos (by omega)]
theorem decode_enc4 (r : Nat) (h1 : 65536 ≤ r) (h2 : r ≤ 1114111) (b : List UInt8) : Lib.decodeL ([UInt8.ofNat (240 + r / 262144), UInt8.ofNat (128 + r / 4096 % 64), UInt8.ofNat (128 + r / 64 % 64), UInt8.ofNat (128 + r % 64)] ++ b) = (r, 4) := by
  rw [Lib.decodeL_N]
  show Lib.decodeN (b.length + 1 + 1 + 1 + 1) (UInt8.ofNat (240 + r / 262144)).toNat (UInt8.ofNat (128 + r / 4096 % 64)).toNat (UInt8.ofNat (128 + r / 64 % 64)).toNat (UInt8.ofNat (128 + r % 64)).toNat = _
  rw [toNat_of _ (by omega), toNat_of _ (by omega), toNat_of _ (by omega), toNat_of _ (by omega)]
  unfold Lib.decodeN
  have e : (240 + r / 262144) % 8 * 262144 + (128 + r / 4096 % 64) % 64 * 4096 + (128 + r / 64 % 64) % 64 * 64 + (128 + r % 64) % 64 = r := by omega
  rw [if_neg (by omega), if_neg (by omega), if_neg (by omega), if_pos (by omega), e, if_pos (by omega)]
theorem valid_of_dec {l b : List UInt8} {r n : Nat} (hd : Lib.decodeL (l ++ b) = (r, n)) (hn : l.length = n) (h1 : 1 ≤ n) (hb : ¬ (r = 65533 ∧ n = 1)) : Lib.validD (l ++ b) = Lib.validD b := by
  rw [Lib.validD_step _ (by intro e; rw [List.append_eq_nil_iff] at e; rw [e.1] at hn; simp at hn; omega), hd, if_neg hb, ← hn, List.drop_left]
/-- a character's bytes ahead turn no text's validity. -/
theorem valid_enc (r : Nat) (b : List UInt8) : Lib.validD (Lib.encodeRune r ++ b) = Lib.validD b := by
  rw [enc_list]
  by_cases c1 : r < 128
  · rw [Extern.FmtText.enc1 r c1]
    exact valid_of_dec (decode_enc1 r c1 b) rfl (Nat.le_refl _) (by omega)
  by_cases c2 : r < 2048
  · rw [Extern.FmtText.enc2 r c1 c2]
    exact valid_of_dec (decode_enc2 r (by omega) c2 b) rfl (by omega) (by omega)
  by_cases hbad : (55296 ≤ r ∧ r ≤ 57343) ∨ 1114111 < r
  · rw [Extern.FmtText.encBad r hbad]
    have := decode_enc3 65533 (by omega) (by omega) (by omega) b
    exact valid_of_dec (r := 65533) (n := 3) this rfl (by omega) (by omega)
  by_cases c3 : r < 65536
  · rw [Extern.FmtText.enc3 r c2 c3 (by omega)]
    exact valid_of_dec (decode_enc3 r (by omega) c3 (by omega) b) rfl (by omega) (by omega)
  · rw [Extern.FmtText.enc4 r c3 (by omega)]
    exact valid_of_dec (decode_enc4 r (by omega) (by omega) b) rfl (by omega) (by omega)
theorem enc_wide (r : Nat) (h : 128 ≤ r) : ∀ c ∈ Lib.encodeRune r, 128 ≤ c.toNat := by
  have t : ∀ n : Nat, 128 ≤ n → n < 256 → 128 ≤ (UInt8.ofNat n).toNat := fun n h1 h2 => by rw [toNat_of n h2]; exact h1
  rw [enc_list]
  by_cases c2 : r < 2048
  · rw [Extern.FmtText.enc2 r (by omega) c2]
    intro c hc
    simp only [List.mem_cons, List.not_mem_nil, or_false] at hc
    rcases hc with rfl | rfl
    all_goals exact t _ (by omega) (by omega)
  by_cases hbad : (55296 ≤ r ∧ r ≤ 57343) ∨ 1114111 < r
  · rw [Extern.FmtText.encBad r hbad]
    decide
  by_cases c3 : r < 65536
  · rw [Extern.FmtText.enc3 r c2 c3 (by omega)]
    intro c hc
    simp only [List.mem_cons, List.not_mem_nil, or_false] at hc
    rcases hc with rfl | rfl | rfl
    all_goals exact t _ (by omega) (by omega)
  · rw [Extern.FmtText.enc4 r c3 (by omega)]
    intro c hc
    simp only [List.mem_cons, List.not_mem_nil, or_false] at hc
    rcases hc with rfl | rfl | rfl | rfl
    all_goals exact t _ (by omega) (by omega)
theorem enc_ascii (r : Nat) (h : r < 128) : Lib.encodeRune r = [UInt8.ofNat r] := by rw [enc_list, Extern.FmtText.enc1 r h]
theorem valid_ascii {c : UInt8} (h : c.toNat < 128) (b : List UInt8) : Lib.validD (c :: b) = Lib.validD b := by
  have := valid_enc c.toNat b
  rw [enc_ascii _ h] at this
  simpa using this
theorem valid_drop : ∀ (p : List UInt8) (b : List UInt8), (∀ c ∈ p, c.toNat < 128) → Lib.validD (p ++ b) = Lib.validD b
  | [], _, _ => rfl
  | c :: p, b, h => by rw [List.cons_append, valid_ascii (h c (by simp)), valid_drop p b (fun d hd => h d (by simp [hd]))]
theorem isN_ascii {c : UInt8} (h : isN c = true) : c.toNat < 128 := by
  have g : ∀ n : Fin 256, isN (UInt8.ofNat n.val) = true → n.val < 128 := by decide +kernel
  have := g ⟨c.toNat, c.toNat_lt⟩
  simp at this
  exact this h
/-- a valid text begins with a character. -/
theorem valid_head {l : List UInt8} (hne : l ≠ []) (h : Lib.validD l = true) : ∃ (r : Nat) (b : List UInt8), l = Lib.encodeRune r ++ b ∧ Lib.validD b = true ∧ b.length < l.length := by
  rw [Lib.validD_step _ hne] at h
  by_cases hb : (Lib.decodeL l).1 = 65533 ∧ (Lib.decodeL l).2 = 1
  · rw [if_pos hb] at h
    cases h
  · rw [if_neg hb] at h
    refine ⟨(Lib.decodeL l).1, l.drop (Lib.decodeL l).2, ?_, h, ?_⟩
    · rw [Lib.encode_decode l hne hb, List.take_append_drop]
    · have h1 := Lib.decodeL_width l
      have h2 := List.length_pos_iff.2 hne
      rw [List.length_drop]
      omega
theorem name_split (l : List UInt8) (h : l[(nameOf l).length]? = some 59) : ∃ b, l = nameOf l ++ 59 :: b ∧ l.drop ((nameOf l).length + 1) = b := by
  have hlt : (nameOf l).length < l.length := (List.getElem?_eq_some_iff.1 h).1
  have hx : l[(nameOf l).length] = 59 := (List.getElem?_eq_some_iff.1 h).2
  refine ⟨l.drop ((nameOf l).length + 1), ?_, rfl⟩
  have e := List.take_append_drop (nameOf l).length l
  have e2 : l.take (nameOf l).length = nameOf l := tw_take l
  rw [e2, List.drop_eq_getElem_cons hlt, hx] at e
  exact e.symm
theorem entAt_semi {l : List UInt8} (h : (entAt l).2.1 = true) : l[(nameOf l).length]? = some 59 := by
  unfold entAt at h
  split at h
  · assumption
  · cases h
/-- the answer on a valid text is valid. -/
theorem ents_valid : ∀ (f : Nat) (l : List UInt8) (k : Nat) (b : List UInt8), l.length ≤ f → Lib.validD l = true → ents f l k = .inr b → Lib.validD b = true := by
  intro f
  induction f using Nat.strongRecOn with
  | ind f ih =>
    intro l k b hf hv he
    cases l with
    | nil =>
      rw [ents_nil] at he
      cases he
      rfl
    | cons c l =>
      simp only [List.length_cons] at hf
      obtain ⟨f, rfl⟩ : ∃ g, f = g + 1 := ⟨f - 1, by omega⟩
      have inr_pre : ∀ (p : List UInt8) x, pre p x = .inr b → ∃ b', x = .inr b' ∧ b = p ++ b' := fun p x hx => by
        cases x with
        | inl a => cases hx
        | inr b' => cases hx; exact ⟨b', rfl, rfl⟩
      by_cases hc : c = 38
      · subst hc
        have hvl : Lib.validD l = true := by rw [← hv]; exact (valid_ascii (by decide) l).symm
        cases h2 : (entAt l).2.2 with
        | false => rw [ents_bad _ _ _ h2] at he; cases he
        | true =>
          cases h1 : (entAt l).2.1 with
          | true =>
            rw [ents_is _ _ _ h2 h1] at he
            obtain ⟨b', hb', rfl⟩ := inr_pre _ _ he
            rw [valid_enc]
            obtain ⟨q, hq, hd⟩ := name_split l (entAt_semi h1)
            rw [hd] at hb'
            refine ih f (by omega) q _ b' ?_ ?_ hb'
            · have := congrArg List.length hq
              simp at this
              omega
            · rw [hq] at hvl
              have := valid_drop (nameOf l ++ [59]) q (fun c hc => by
                rcases List.mem_append.1 hc with hc | hc
                · obtain ⟨j, hj, e⟩ := List.mem_iff_getElem.1 hc
                  obtain ⟨x, hx, hp⟩ := tw_lt (p := isN) l j hj
                  have e2 : l.take (nameOf l).length = nameOf l := tw_take l
                  have : (nameOf l)[j]? = l[j]? := by
                    conv => lhs; rw [← e2]
                    rw [List.getElem?_take_of_lt hj]
                  rw [hx, List.getElem?_eq_getElem hj, e] at this
                  cases this
                  exact isN_ascii hp
                · simp at hc; subst hc; decide)
              rw [List.append_assoc] at this
              rw [← this]
              exact hvl
          | false =>
            rw [ents_none _ _ _ h2 h1] at he
            obtain ⟨b', hb', rfl⟩ := inr_pre _ _ he
            rw [List.singleton_append, valid_ascii (by decide)]
            exact ih f (by omega) l _ b' (by omega) hvl hb'
      · obtain ⟨r, q, hq, hvq, hlt⟩ := valid_head (List.cons_ne_nil c l) hv
        have hne : ∀ d ∈ Lib.encodeRune r, d ≠ 38 := by
          by_cases hr : r < 128
          · rw [enc_ascii r hr] at hq ⊢
            rw [List.singleton_append] at hq
            cases hq
            intro d hd
            simp at hd
            subst hd
            exact hc
          · intro d hd e
            have := enc_wide r (by omega) d hd
            rw [e] at this
            exact absurd this (by decide)
        have hl := congrArg List.length hq
        rw [List.length_append, List.length_cons] at hl
        rw [List.length_cons] at hlt
        rw [hq, ents_plain _ _ _ _ hne (by omega)] at he
        obtain ⟨b', hb', rfl⟩ := inr_pre _ _ he
        rw [valid_enc]
        exact ih (f + 1 - (Lib.encodeRune r).length) (by omega) q _ b' (by omega) hvq hb'
theorem entities_valid {t b : List UInt8} (hv : Lib.validD t = true) (he : entities t = .inr b) : Lib.validD b = true := ents_valid t.length t 0 b (Nat.le_refl _) hv he
/-- the place of what may not be lies in the text. -/
theorem ents_inl : ∀ (f : Nat) (l : List UInt8) (k a : Nat), ents f l k = .inl a → a < k + l.length := by
  intro f
  induction f with
  | zero => intro l k a h; simp [ents] at h
  | succ f ih =>
    intro l k a h
    have inl_pre : ∀ (p : List UInt8) x, pre p x = .inl a → x = .inl a := fun p x hx => by
      cases x with
      | inl a' => cases hx; rfl
      | inr b' => cases hx
    cases l with
    | nil => rw [ents_nil] at h; cases h
    | cons c l =>
      rw [List.length_cons]
      by_cases hc : c = 38
      · subst hc
        cases h2 : (entAt l).2.2 with
        | false => rw [ents_bad _ _ _ h2] at h; cases h; omega
        | true =>
          cases h1 : (entAt l).2.1 with
          | true =>
            rw [ents_is _ _ _ h2 h1] at h
            have := ih _ _ _ (inl_pre _ _ h)
            have h3 := (List.getElem?_eq_some_iff.1 (entAt_semi h1)).1
            rw [List.length_drop] at this
            omega
          | false =>
            rw [ents_none _ _ _ h2 h1] at h
            have := ih _ _ _ (inl_pre _ _ h)
            omega
      · rw [ents_other _ _ _ _ hc] at h
        have := ih _ _ _ (inl_pre _ _ h)
        omega
theorem ents_len : ∀ (f : Nat) (l : List UInt8) (k : Nat) (b : List UInt8), ents f l k = .inr b → b.length ≤ 4 * l.length := by
  intro f
  induction f with
  | zero => intro l k b h; simp [ents] at h; subst h; simp
  | succ f ih =>
    intro l k b h
    have inr_pre : ∀ (p : List UInt8) x, pre p x = .inr b → ∃ b', x = .inr b' ∧ b = p ++ b' := fun p x hx => by
      cases x with
      | inl a => cases hx
      | inr b' => cases hx; exact ⟨b', rfl, rfl⟩
    cases l with
    | nil => rw [ents_nil] at h; cases h; simp
    | cons c l =>
      rw [List.length_cons]
      by_cases hc : c = 38
      · subst hc
        cases h2 : (entAt l).2.2 with
        | false => rw [ents_bad _ _ _ h2] at h; cases h
        | true =>
          cases h1 : (entAt l).2.1 with
          | true =>
            rw [ents_is _ _ _ h2 h1] at h
            obtain ⟨b', hb', rfl⟩ := inr_pre _ _ h
            have := ih _ _ _ hb'
            rw [List.length_drop] at this
            have h4 : (Lib.encodeRune ((entAt l).1 : Int)).length ≤ 4 := by
              rw [enc_list, ofl]
              exact encode_size_le _
            rw [List.length_append]
            omega
          | false =>
            rw [ents_none _ _ _ h2 h1] at h
            obtain ⟨b', hb', rfl⟩ := inr_pre _ _ h
            have := ih _ _ _ hb'
            simp
            omega
      · rw [ents_other _ _ _ _ hc] at h
        obtain ⟨b', hb', rfl⟩ := inr_pre _ _ h
        have := ih _ _ _ hb'
        simp
        omega
end Go.Proofs.YtcflmpnkmchdoaaDoor
