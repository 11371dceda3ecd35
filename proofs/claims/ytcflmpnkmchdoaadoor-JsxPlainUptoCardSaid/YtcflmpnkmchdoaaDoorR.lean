/- A text's words, byte by byte, and that strings.FieldsFunc's words at the four blanks are these. No run of the program in sight. -/
import Derived.Test.YtcflmpnkmchdoaaDoorQ
import Derived.Test.YtcflmpnkmchdoaaDoorE
import Derived.Lib.FieldsP
namespace Go.Proofs.YtcflmpnkmchdoaaDoor

/-- a blank that parts words. -/
def isW (c : UInt8) : Bool := c.toNat == 32 || c.toNat == 9 || c.toNat == 10 || c.toNat == 13
/-- the same of a character. -/
def isWr (c : Nat) : Bool := c == 32 || c == 9 || c == 10 || c == 13
/-- words, from a beginning of one on. -/
def wordsGo : List UInt8 → List UInt8 → List (List UInt8)
  | cur, [] => if cur = [] then [] else [cur]
  | cur, c :: l => if isW c = true then (if cur = [] then wordsGo [] l else cur :: wordsGo [] l) else wordsGo (cur ++ [c]) l
/-- a text's words. -/
def wordsL (l : List UInt8) : List (List UInt8) := wordsGo [] l

/-- the word that is under way. -/
def curOf (s : ByteArray) (st : Option Nat) (pos : Nat) : List UInt8 := match st with
  | some a => (s.data.toList.drop a).take (pos - a)
  | none => []
theorem slice_snoc (l : List UInt8) (a pos : Nat) (c : UInt8) (h : l[pos]? = some c) (ha : a ≤ pos) : (l.drop a).take (pos + 1 - a) = (l.drop a).take (pos - a) ++ [c] := by
  rw [show pos + 1 - a = (pos - a) + 1 by omega, List.take_add_one, List.getElem?_drop, show a + (pos - a) = pos by omega, h]
  rfl
theorem slice_ne (l : List UInt8) (a pos : Nat) (ha : a < pos) (hp : pos ≤ l.length) : (l.drop a).take (pos - a) ≠ [] := by
  intro h
  have := congrArg List.length h
  simp at this
  omega
/-- over bytes that are no blanks. -/
theorem words_skip (s : ByteArray) (st : Option Nat) (pos n : Nat) (hst : ∀ a, st = some a → a < pos) (hn : 1 ≤ n) (hns : pos + n ≤ s.size) (hb : ∀ j, j < n → ∃ hj : pos + j < s.size, isW (s[pos + j]'hj) = false) :
    wordsGo (curOf s st pos) (s.data.toList.drop pos) = wordsGo (curOf s (some (st.getD pos)) (pos + n)) (s.data.toList.drop (pos + n)) := by
  induction n with
  | zero => omega
  | succ n ih =>
    have hget : ∀ i (h : i < s.size), s.data.toList[i]? = some (s[i]'h) := fun i h => by rw [List.getElem?_eq_getElem (by simpa using h)]; rfl
    have step : ∀ (a p : Nat) (hp : p < s.size), a ≤ p → isW (s[p]'hp) = false → wordsGo ((s.data.toList.drop a).take (p - a)) (s.data.toList.drop p) = wordsGo ((s.data.toList.drop a).take (p + 1 - a)) (s.data.toList.drop (p + 1)) := fun a p hp hap hw => by
      rw [List.drop_eq_getElem_cons (i := p) (by simpa using hp), wordsGo]
      have e : s.data.toList[p]'(by simpa using hp) = s[p]'hp := rfl
      rw [e, if_neg (by rw [hw]; decide), slice_snoc _ a p _ (hget p hp) hap]
    by_cases hn0 : n = 0
    · subst hn0
      obtain ⟨hj, hw⟩ := hb 0 (by omega)
      simp only [Nat.add_zero] at hj hw
      cases st with
      | none =>
        have := step pos pos hj (Nat.le_refl _) hw
        rw [Nat.sub_self, List.take_zero] at this
        simpa [curOf] using this
      | some a =>
        have := hst a rfl
        exact step a pos hj (by omega) hw
    · rw [ih (by omega) (by omega) (fun j hj => hb j (by omega))]
      obtain ⟨hj, hw⟩ := hb n (by omega)
      have : st.getD pos ≤ pos + n := by
        cases st with
        | none => simp
        | some a => have := hst a rfl; simp; omega
      exact step (st.getD pos) (pos + n) hj this hw
theorem words_blank (s : ByteArray) (st : Option Nat) (pos : Nat) (hst : ∀ a, st = some a → a < pos) (hp : pos < s.size) (hb : isW s[pos] = true) :
    wordsGo (curOf s st pos) (s.data.toList.drop pos) = (match st with | some a => [(s.data.toList.drop a).take (pos - a)] | none => []) ++ wordsGo (curOf s none (pos + 1)) (s.data.toList.drop (pos + 1)) := by
  rw [List.drop_eq_getElem_cons (i := pos) (by simpa using hp), wordsGo]
  have e : s.data.toList[pos]'(by simpa using hp) = s[pos] := rfl
  rw [e, if_pos hb]
  cases st with
  | none => simp [curOf]
  | some a =>
    have h : curOf s (some a) pos ≠ [] := slice_ne s.data.toList a pos (hst a rfl) (by simp; omega)
    rw [if_neg h]
    rfl
theorem words_end (s : ByteArray) (st : Option Nat) (hst : ∀ a, st = some a → a < s.size) :
    wordsGo (curOf s st s.size) (s.data.toList.drop s.size) = (match st with | some a => [(s.data.toList.drop a).take (s.size - a)] | none => []) := by
  rw [List.drop_eq_nil_of_le (by simp), wordsGo]
  cases st with
  | none => simp [curOf]
  | some a =>
    have h : curOf s (some a) s.size ≠ [] := slice_ne s.data.toList a s.size (hst a rfl) (by simp)
    rw [if_neg h]
    rfl

/-- a span as bytes. -/
def spanL (s : ByteArray) (x : Nat × Nat) : List UInt8 := (s.data.toList.drop x.1).take (x.2 - x.1)
theorem isW_low (c : UInt8) : isWr c.toNat = isW c := rfl
theorem isW_high (c : UInt8) (h : 128 ≤ c.toNat) : isW c = false := by
  have : c.toNat ≠ 32 ∧ c.toNat ≠ 9 ∧ c.toNat ≠ 10 ∧ c.toNat ≠ 13 := by omega
  simp [isW, this]
theorem isWr_high (c : Nat) (h : 128 ≤ c) : isWr c = false := by
  have : c ≠ 32 ∧ c ≠ 9 ∧ c ≠ 10 ∧ c ≠ 13 := by omega
  simp [isWr, this]

theorem spansFromP_step (p : Nat → Bool) (s : ByteArray) (f pos : Nat) (st : Option Nat) (acc : List (Nat × Nat)) (h : pos < s.size) :
    Lib.spansFromP p s (f + 1) pos st acc = if p (Utf8.decode s pos).1 then
        (match st with
         | some a => Lib.spansFromP p s f (pos + (Utf8.decode s pos).2) none (acc ++ [(a, pos)])
         | none => Lib.spansFromP p s f (pos + (Utf8.decode s pos).2) none acc)
       else
        (match st with
         | some a => Lib.spansFromP p s f (pos + (Utf8.decode s pos).2) (some a) acc
         | none => Lib.spansFromP p s f (pos + (Utf8.decode s pos).2) (some pos) acc) := by
  rw [Lib.spansFromP.eq_def]
  exact if_pos h
theorem spans_words (s : ByteArray) : ∀ (f pos : Nat) (st : Option Nat) (acc : List (Nat × Nat)), s.size - pos ≤ f → pos ≤ s.size → (∀ a, st = some a → a < pos) →
    (Lib.closeSpans s (Lib.spansFromP isWr s f pos st acc)).map (spanL s) = acc.map (spanL s) ++ wordsGo (curOf s st pos) (s.data.toList.drop pos) := by
  intro f
  induction f with
  | zero =>
    intro pos st acc hf hp hst
    obtain rfl : pos = s.size := by omega
    rw [words_end s st hst]
    cases st <;> simp [Lib.spansFromP, Lib.closeSpans, spanL]
  | succ f ih =>
    intro pos st acc hf hp hst
    by_cases hlt : pos < s.size
    · by_cases h128 : s[pos].toNat < 128
      · have hd := decode_low s pos hlt h128
        rw [spansFromP_step _ _ _ _ _ _ hlt, hd]
        by_cases hw : isW s[pos] = true
        · rw [if_pos (show isWr (s[pos].toNat, 1).1 = true from hw), words_blank s st pos hst hlt hw]
          cases st with
          | none => simp only; rw [ih (pos + 1) none acc (by omega) (by omega) (by simp)]; simp
          | some a => simp only; rw [ih (pos + 1) none (acc ++ [(a, pos)]) (by omega) (by omega) (by simp)]; simp [spanL]
        · have hw' : isW s[pos] = false := by simpa using hw
          have h1 : ∀ j, j < 1 → ∃ hj : pos + j < s.size, isW (s[pos + j]'hj) = false := by
            intro j hj
            obtain rfl : j = 0 := by omega
            exact ⟨hlt, hw'⟩
          rw [if_neg (show ¬ isWr (s[pos].toNat, 1).1 = true from hw), words_skip s st pos 1 hst (by omega) (by omega) h1]
          cases st with
          | none => simp only; rw [ih (pos + 1) (some pos) acc (by omega) (by omega) (by simp)]; rfl
          | some a =>
            have := hst a rfl
            simp only; rw [ih (pos + 1) (some a) acc (by omega) (by omega) (by simp; omega)]; rfl
      · obtain ⟨hn1, hns, hc, hbs⟩ := decode_wide s pos hlt (by omega)
        obtain ⟨⟨c, n⟩, hcn⟩ : ∃ p, Utf8.decode s pos = p := ⟨_, rfl⟩
        rw [hcn] at hn1 hns hc hbs
        simp only at hn1 hns hc hbs
        rw [spansFromP_step _ _ _ _ _ _ hlt, hcn]
        simp only [isWr_high c hc.1, Bool.false_eq_true, if_false]
        rw [words_skip s st pos n hst hn1 hns (fun j hj => by obtain ⟨h, h'⟩ := hbs j hj; exact ⟨h, isW_high _ h'⟩)]
        cases st with
        | none => simp only; rw [ih (pos + n) (some pos) acc (by omega) (by omega) (by simp; omega)]; rfl
        | some a =>
          have := hst a rfl
          simp only; rw [ih (pos + n) (some a) acc (by omega) (by omega) (by simp; omega)]; rfl
    · obtain rfl : pos = s.size := by omega
      rw [words_end s st hst, Lib.spansFromP_end _ _ _ _ _ _ hlt]
      cases st <;> simp [Lib.closeSpans, spanL]

/-- strings.FieldsFunc's words at the four blanks. -/
theorem fields_words (s : ByteArray) : (Lib.goFieldsP isWr s).map (·.data.toList) = wordsL s.data.toList := by
  have h := spans_words s s.size 0 none [] (by omega) (by omega) (by simp)
  unfold Lib.goFieldsP Lib.spansOfP
  rw [List.map_map]
  have e : (fun x : ByteArray => x.data.toList) ∘ (fun x : Nat × Nat => s.extract x.1 x.2) = spanL s := by
    funext x
    simp only [Function.comp, spanL, Lib.extract_data]
  rw [e, h]
  simp [wordsL, curOf]
end Go.Proofs.YtcflmpnkmchdoaaDoor
