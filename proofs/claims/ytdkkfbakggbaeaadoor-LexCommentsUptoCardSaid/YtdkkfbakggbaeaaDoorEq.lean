/- Plain: a token behind which a blank stands is the same token. | Plain: a token behind which a blank stands is the same token: numbers, texts, signs; the laws of LexEnds. -/
import Derived.Test.YtdkkfbakggbaeaaDoorBs
namespace Go.Proofs.YtdkkfbakggbaeaaDoor
open Go.RowKit

theorem pre_blank : ∀ (w l t : List UInt8), (∀ c ∈ w, c ≠ 32) → Lib.hasPrefix (l ++ 32 :: t) w = Lib.hasPrefix l w
  | [], _, _, _ => by simp [Lib.hasPrefix, List.isPrefixOf]
  | a :: r, [], t, h => by
    rw [List.nil_append, pre_head (fun e => h a (.head _) e.symm)]
    rfl
  | a :: r, c :: l, t, h => by
    have ih := pre_blank r l t (fun x hx => h x (.tail _ hx))
    show (a == c && Lib.hasPrefix (l ++ 32 :: t) r) = (a == c && Lib.hasPrefix l r)
    rw [ih]
theorem dig_blank (l t : List UInt8) : digAt (l ++ 32 :: t) = digAt l := by
  cases l with
  | nil => rfl
  | cons c l => rfl
theorem esc_blank (l t : List UInt8) : esc (l ++ 32 :: t) = esc l := by
  unfold esc
  rw [pre_blank [92] l t (by decide)]
theorem TpO.shift_fine {m n : Nat} {o : TpO} {h : Bool} (e : o.shift m = .fine n h) : ∃ k, o = .fine k h ∧ n = m + k := by
  cases o with
  | fine k b => cases e; exact ⟨k, rfl, rfl⟩
  | bad _ _ => cases e
theorem tpl_blank (t : List UInt8) : ∀ (f : Nat) (l : List UInt8) (n : Nat) (h : Bool), l.length ≤ f → tpl l = .fine n h → tpl (l ++ 32 :: t) = .fine n h := by
  intro f
  induction f with
  | zero =>
    intro l n h hf e
    have : l = [] := List.length_eq_zero_iff.1 (by omega)
    subst this
    cases e
  | succ f ih =>
    intro l n h hf e
    rw [tpl_step] at e
    rw [tpl_step, pre_blank [96] l t (by decide), pre_blank [36, 123] l t (by decide), esc_blank]
    have hle := esc_le l
    rw [List.drop_append_of_le_length hle]
    split at e
    · rename_i h1; rw [if_pos h1]; exact e
    · rename_i h1
      rw [if_neg h1]
      split at e
      · rename_i h2; rw [if_pos h2]; exact e
      · rename_i h2
        rw [if_neg h2]
        split at e
        · cases e
        · rename_i h3
          split at e
          · cases e
          · rename_i h4
            obtain ⟨m, e1, e2, _, e3⟩ := nx_pos (l := l.drop (esc l)) (by omega)
            rw [nx_app _ (by omega), if_neg h3, if_neg h4]
            rw [List.length_drop] at e2
            obtain ⟨k, e4, e5⟩ := TpO.shift_fine e
            rw [List.drop_append_of_le_length (by rw [e1, Int.toNat_natCast]; omega), ih _ k h ?_ e4]
            · rw [e5]; rfl
            · rw [List.length_drop, e1, Int.toNat_natCast]
              omega
theorem goesP_blank (t : List UInt8) : goesP false (32 :: t) = false := by
  unfold goesP
  rw [nx_ascii 32 t (by decide)]
  decide +kernel
theorem parts_blank (t : List UInt8) : ∀ (f : Nat) (l : List UInt8), l.length ≤ f → partsL false l = l.length → partsL false (l ++ 32 :: t) = l.length
  | 0, l, h, _ => by
    have : l = [] := List.length_eq_zero_iff.1 (by omega)
    subst this
    exact partsL_no (goesP_blank t)
  | f + 1, l, hf, h => by
    by_cases hl : l = []
    · subst hl
      exact partsL_no (goesP_blank t)
    · have hpos := List.length_pos_iff.2 hl
      cases hg : goesP false l with
      | false => rw [partsL_no hg] at h; omega
      | true =>
        obtain ⟨n, h1, h2, h3, _⟩ := goesP_pos hg
        rw [partsL_yes hg, h1, Int.toNat_natCast] at h
        have hn := nx_app (32 :: t) (l := l) (by omega)
        have hg2 : goesP false (l ++ 32 :: t) = true := by
          unfold goesP at hg ⊢
          rw [hn]
          exact hg
        rw [partsL_yes hg2, hn, h1, Int.toNat_natCast, List.drop_append_of_le_length h3, parts_blank t f (l.drop n) (by rw [List.length_drop]; omega) (by rw [List.length_drop]; omega), List.length_drop]
        omega
theorem name_pos {l : List UInt8} (h : nameL false l ≠ 0) : 0 < (nx l).2 ∧ startC (nx l).1 = true := by
  unfold nameL at h
  split at h
  · assumption
  · exact absurd rfl h
theorem name_blank {l t : List UInt8} (h : nameL false l = l.length) (hl : l ≠ []) : nameL false (l ++ 32 :: t) = l.length := by
  have hp := name_pos (l := l) (by rw [h]; exact fun e => hl (List.length_eq_zero_iff.1 e))
  unfold nameL at h ⊢
  rw [if_pos hp] at h
  rw [nx_app _ hp.1, if_pos hp]
  exact parts_blank t l.length l (Nat.le_refl _) h
theorem aft_blank {l t : List UInt8} {kind : Int} {n : Nat} (h : n = l.length) : aft (l ++ 32 :: t) kind n = .fine kind n := by
  refine aft_fine ?_
  rw [h, List.drop_left, nx_ascii 32 t (by decide)]
  decide
/- numbers. -/
theorem isD_blank (b : Nat) : isD b 32 = false := by
  unfold isD
  rw [if_neg (by decide), if_neg (by decide), if_neg (by decide)]
  exact decide_eq_false (fun h => absurd h.2.1 (by decide))
theorem head_blank (b : Nat) (l t : List UInt8) : headD b (l ++ 32 :: t) = headD b l := by
  cases l with
  | nil => exact isD_blank b
  | cons c l => rfl
theorem run_blank (b : Nat) (t : List UInt8) : ∀ (l : List UInt8) (p : Bool), runN b p (l ++ 32 :: t) = runN b p l
  | [], p => by
    show runN b p (32 :: t) = 0
    rw [runN, isD_blank, if_neg (by decide), if_neg (by rintro ⟨h, _⟩; exact absurd h (by decide))]
  | c :: l, p => by
    rw [List.cons_append, runN, runN, run_blank b t l true, run_blank b t l false, head_blank]
theorem ext_app (s X : ByteArray) (a : Nat) (h : a ≤ s.size) : (s ++ X).extract a (s ++ X).size = s.extract a s.size ++ X := by
  apply ByteArray.ext
  apply Array.toList_inj.1
  have h1 : (s.extract a s.size ++ X).data.toList = (s.extract a s.size).data.toList ++ X.data.toList := by simp [ByteArray.data_append]
  have h2 : (s ++ X).data.toList = s.data.toList ++ X.data.toList := by simp [ByteArray.data_append]
  rw [h1, extract_drop, extract_drop, h2, List.drop_append_of_le_length (by rw [ofl]; exact h)]
theorem ext_app2 (s X : ByteArray) (a b : Nat) (h : b ≤ s.size) : (s ++ X).extract a b = s.extract a b := by
  apply ByteArray.ext
  apply Array.toList_inj.1
  have h2 : (s ++ X).data.toList = s.data.toList ++ X.data.toList := by simp [ByteArray.data_append]
  rw [Lib.extract_data, Lib.extract_data, h2]
  by_cases ha : a ≤ s.size
  · rw [List.drop_append_of_le_length (by rw [ofl]; exact ha), List.take_append_of_le_length (by rw [List.length_drop, ofl]; omega)]
  · rw [show b - a = 0 by omega]
    rfl
section
variable {s X : ByteArray} {t : List UInt8} (hX : X.data.toList = 32 :: t)
include hX
theorem app_list (s : ByteArray) : (s ++ X).data.toList = s.data.toList ++ 32 :: t := by rw [← hX]; simp [ByteArray.data_append]
theorem runB_blank (b : Nat) (s : ByteArray) : runB b (s ++ X) = ((runB b s).1, (runB b s).2 ++ X) := by
  have h1 := runN_le b false s.data.toList
  rw [ofl] at h1
  unfold runB
  rw [app_list hX, run_blank, ext_app2 _ _ _ _ h1, ext_app _ _ _ h1]
theorem preB_blank (s : ByteArray) (w : List UInt8) (hw : ∀ c ∈ w, c ≠ 32) : Lib.hasPrefix (s ++ X).data.toList w = Lib.hasPrefix s.data.toList w := by
  rw [app_list hX, pre_blank w _ _ hw]
theorem wholeO_blank (s : ByteArray) : wholeO (s ++ X) = ((wholeO s).1, (wholeO s).2 ++ X) := by
  unfold wholeO
  rw [preB_blank hX s [48] (by decide)]
  split
  · rename_i h; rw [ext_app _ _ _ (hasPrefix_pos h)]
  · exact runB_blank hX 0 s
theorem partO_blank (s : ByteArray) : partO (s ++ X) = ((partO s).1, (partO s).2.1, (partO s).2.2 ++ X) := by
  unfold partO
  rw [preB_blank hX s [46] (by decide)]
  split
  · rename_i h; rw [ext_app _ _ _ (hasPrefix_pos h), runB_blank hX]
  · rfl
theorem signO_blank (d : ByteArray) : signO (d ++ X) = ((signO d).1, (signO d).2 ++ X) := by
  unfold signO
  rw [preB_blank hX d [45] (by decide), preB_blank hX d [43] (by decide)]
  congr 1
  split
  · rename_i h
    rw [Bool.or_eq_true] at h
    rw [ext_app _ _ _ (by rcases h with h | h <;> exact hasPrefix_pos h)]
  · rfl
theorem powO_blank (m : Bool) (d : ByteArray) : powO m (d ++ X) = (powO m d).map fun q => (q.1, q.2.1, q.2.2 ++ X) := by
  have h1 := runN_le 0 false d.data.toList
  rw [ofl] at h1
  unfold powO
  rw [app_list hX, run_blank, ext_app2 _ _ _ _ h1, ext_app _ _ _ h1]
  split <;> rfl
theorem expO_blank (s : ByteArray) : expO (s ++ X) = (expO s).map fun q => (q.1, q.2.1, q.2.2 ++ X) := by
  have hXs : 0 < X.size := by rw [← ofl, hX]; simp
  unfold expO
  rw [dif_pos (show 0 < (s ++ X).size by rw [ByteArray.size_append]; omega)]
  by_cases h0 : 0 < s.size
  · rw [dif_pos h0]
    have e : (s ++ X)[0]'(by rw [ByteArray.size_append]; omega) = s[0] := by
      have h2 := app_list hX s
      have a := drop_cons (s ++ X) 0 (by rw [ByteArray.size_append]; omega)
      have b := drop_cons s 0 h0
      rw [List.drop_zero, h2] at a
      rw [List.drop_zero] at b
      rw [b, List.cons_append] at a
      exact (List.cons.inj a).1.symm
    rw [e]
    split
    · rw [ext_app _ _ _ h0, signO_blank hX]
      exact powO_blank hX _ _
    · rfl
  · rw [dif_neg h0]
    have e : (s ++ X)[0]'(by rw [ByteArray.size_append]; omega) = 32 := by
      have h2 := app_list hX s
      have a := drop_cons (s ++ X) 0 (by rw [ByteArray.size_append]; omega)
      have hs : s.data.toList = [] := List.length_eq_zero_iff.1 (by rw [ofl]; omega)
      rw [List.drop_zero, h2, hs] at a
      exact (List.cons.inj a).1.symm
    rw [e, if_neg (by decide)]
    rfl
theorem expL_blank (x : Lit) (s : ByteArray) : expL x (s ++ X) = ((expL x s).1, (expL x s).2 ++ X) := by
  unfold expL
  rw [expO_blank hX]
  cases expO s with
  | none => rfl
  | some q => rfl
theorem bigL_blank (x : Lit) (s : ByteArray) : bigL x (s ++ X) = ((bigL x s).1, (bigL x s).2 ++ X) := by
  unfold bigL
  rw [preB_blank hX s [110] (by decide)]
  split
  · rename_i h
    simp only [Bool.and_eq_true] at h
    rw [ext_app _ _ _ (hasPrefix_pos h.2)]
  · rfl
end
end Go.Proofs.YtdkkfbakggbaeaaDoor
namespace Go.Proofs.YtdkkfbakggbaeaaDoor
open Go.RowKit

section
variable {X : ByteArray} {t : List UInt8} (hX : X.data.toList = 32 :: t)
include hX
theorem scanDec_blank (s : ByteArray) : scanDec (s ++ X) = ((scanDec s).1, (scanDec s).2.1 ++ X, (scanDec s).2.2) := by
  unfold scanDec
  rw [wholeO_blank hX]
  simp only
  rw [partO_blank hX]
  simp only
  split
  · rfl
  · rw [expL_blank hX]
    simp only
    rw [bigL_blank hX]
theorem trim_blank (r : ByteArray) : (⟨(Lib.trimPrefix (r ++ X).data.toList [110]).toArray⟩ : ByteArray) = ⟨(Lib.trimPrefix r.data.toList [110]).toArray⟩ ++ X := by
  apply ba_ext
  rw [app_list hX, app_list hX]
  show Lib.trimPrefix (r.data.toList ++ 32 :: t) [110] = Lib.trimPrefix r.data.toList [110] ++ 32 :: t
  unfold Lib.trimPrefix
  rw [pre_blank [110] _ _ (by decide)]
  split
  · rename_i h
    rw [List.drop_append_of_le_length (prefix_len h)]
  · rfl
theorem scanOth_blank (s : ByteArray) (h : 2 < s.size) : scanOth (s ++ X) = ((scanOth s).1, (scanOth s).2.1 ++ X, (scanOth s).2.2) := by
  unfold scanOth
  have e : (s ++ X).data.toList[1]! = s.data.toList[1]! := by
    rw [app_list hX, List.getElem!_eq_getElem?_getD, List.getElem!_eq_getElem?_getD, List.getElem?_append_left (by rw [ofl]; omega)]
  rw [e, ext_app _ _ _ (by omega), runB_blank hX]
  generalize runB (s.data.toList[1]!.toNat ||| 32) (s.extract 2 s.size) = r
  simp only
  rw [trim_blank hX, preB_blank hX _ [110] (by decide)]
theorem isOth_blank (s : ByteArray) (h : s.size ≠ 2) : isOth (s ++ X) = isOth s := by
  have hXs : 0 < X.size := by rw [← ofl, hX]; simp
  unfold isOth
  by_cases h2 : 2 < s.size
  · have e : ∀ i (hi : i < s.size), (s ++ X)[i]'(by rw [ByteArray.size_append]; omega) = s[i] := fun i hi => by
      have a := get_data (s ++ X) i (by rw [ByteArray.size_append]; omega)
      rw [app_list hX, List.getElem?_append_left (by rw [ofl]; exact hi), get_data s i hi] at a
      exact (Option.some.inj a).symm
    rw [dif_pos h2, dif_pos (by rw [ByteArray.size_append]; omega), e 0 (by omega), e 1 (by omega)]
  · rw [dif_neg h2]
    split
    · rename_i h3
      rw [ByteArray.size_append] at h3
      have e1 : (s ++ X)[1]'(by rw [ByteArray.size_append]; omega) = 32 ∨ (s ++ X)[0]'(by rw [ByteArray.size_append]; omega) = 32 := by
        have hc : s.size = 0 ∨ s.size = 1 := by omega
        rcases hc with hc | hc
        · right
          have a := get_data (s ++ X) 0 (by rw [ByteArray.size_append]; omega)
          have hidx : (32 :: t)[0 - s.size]? = some 32 := by rw [hc]; rfl
          rw [app_list hX, List.getElem?_append_right (by rw [ofl]; omega), ofl, hidx] at a
          exact (Option.some.inj a).symm
        · left
          have a := get_data (s ++ X) 1 (by rw [ByteArray.size_append]; omega)
          have hidx : (32 :: t)[1 - s.size]? = some 32 := by rw [hc]; rfl
          rw [app_list hX, List.getElem?_append_right (by rw [ofl]; omega), ofl, hidx] at a
          exact (Option.some.inj a).symm
      rcases e1 with e | e
      · rw [e]
        simp
      · rw [e]
        rfl
    · rfl
end
theorem two_all : ∀ c : Fin 256, 65 ≤ c.val → (c.val ||| 32 = 120 ∨ c.val ||| 32 = 111 ∨ c.val ||| 32 = 98) → (scanDec ⟨#[48, UInt8.ofNat c.val]⟩).2.1.size ≠ 0 := by decide +kernel
theorem scanB_blank {s X : ByteArray} {t : List UInt8} (hX : X.data.toList = 32 :: t) (h : (scanB s).2.1.size = 0) : scanB (s ++ X) = ((scanB s).1, (scanB s).2.1 ++ X, (scanB s).2.2) := by
  by_cases h2 : s.size = 2
  · have ho : isOth s = false := by
      cases ho : isOth s with
      | true => have := isOth_size ho; omega
      | false => rfl
    have hs : scanB s = scanDec s := by unfold scanB; rw [ho, if_neg (by decide)]
    rw [hs] at h ⊢
    have ho2 : isOth (s ++ X) = false := by
      cases ho2 : isOth (s ++ X) with
      | false => rfl
      | true =>
        exfalso
        unfold isOth at ho2
        split at ho2
        · simp only [Bool.and_eq_true, Bool.or_eq_true, decide_eq_true_eq, beq_iff_eq] at ho2
          have e : ∀ i (hi : i < s.size), (s ++ X)[i]'(by rw [ByteArray.size_append]; omega) = s[i] := fun i hi => by
            have a := get_data (s ++ X) i (by rw [ByteArray.size_append]; omega)
            rw [app_list hX, List.getElem?_append_left (by rw [ofl]; exact hi), get_data s i hi] at a
            exact (Option.some.inj a).symm
          rw [e 0 (by omega), e 1 (by omega)] at ho2
          obtain ⟨⟨h48, hx⟩, h65⟩ := ho2
          have hl : s.data.toList = [48, UInt8.ofNat s[1].toNat] := by
            have a := drop_cons s 0 (by omega)
            have b := drop_cons s 1 (by omega)
            have c : s.data.toList.drop (1 + 1) = [] := List.drop_of_length_le (by rw [ofl]; omega)
            rw [List.drop_zero] at a
            rw [a, b, c, h48]
            simp
          have hse : s = ⟨#[48, UInt8.ofNat s[1].toNat]⟩ := ba_ext hl
          have := two_all ⟨s[1].toNat, s[1].toNat_lt⟩ h65 (by rcases hx with (hx | hx) | hx; exact .inl hx; exact .inr (.inl hx); exact .inr (.inr hx))
          simp only at this
          rw [← hse] at this
          exact this h
        · cases ho2
    unfold scanB
    rw [ho2, if_neg (by decide), scanDec_blank hX]
  · unfold scanB
    rw [isOth_blank hX s h2]
    cases ho : isOth s with
    | true => rw [if_pos rfl, if_pos rfl]; exact scanOth_blank hX s (isOth_size ho)
    | false => rw [if_neg (by decide), if_neg (by decide)]; exact scanDec_blank hX s
theorem long_blank {l t : List UInt8} (h : longL l = l.length) (hl : l ≠ []) : longL (l ++ 32 :: t) = l.length := by
  have hpos := List.length_pos_iff.2 hl
  have hsz : (⟨l.toArray⟩ : ByteArray).size = l.length := rfl
  have hX : (⟨(32 :: t).toArray⟩ : ByteArray).data.toList = 32 :: t := rfl
  have he : (⟨(l ++ 32 :: t).toArray⟩ : ByteArray) = ⟨l.toArray⟩ ++ ⟨(32 :: t).toArray⟩ := byteArray_ext _ _ (by rw [app_list hX])
  unfold longL at h ⊢
  rw [he]
  unfold longB at h ⊢
  cases hf : (scanB ⟨l.toArray⟩).2.2 with
  | false => rw [hf, if_neg (by decide)] at h; omega
  | true =>
    have hle := scanB_size ⟨l.toArray⟩
    rw [hf, if_pos rfl, hsz] at h
    rw [hsz] at hle
    rw [scanB_blank hX (by omega), hf]
    simp only
    rw [if_pos trivial, ByteArray.size_append, ByteArray.size_append, hsz]
    omega
theorem num_blank {l t : List UInt8} (h : numL l = l.length) (hl : l ≠ []) : numL (l ++ 32 :: t) = l.length := by
  have hpos := List.length_pos_iff.2 hl
  have h1 : longL l = l.length := by
    unfold numL at h
    split at h
    · omega
    · exact h
  have h2 := long_blank (t := t) h1 hl
  unfold numL
  rw [h2, List.drop_left, if_neg, ]
  rw [nx_ascii 32 t (by decide)]
  rintro ⟨_, h | h⟩
  · exact absurd h (by decide +kernel)
  · exact absurd (show false = true from h) (by decide)
theorem sc_blank (q : UInt8) (t : List UInt8) : ∀ (f : Nat) (l : List UInt8), l.length ≤ f → sc q l < l.length → sc q (l ++ 32 :: t) = sc q l := by
  intro f
  induction f with
  | zero => intro l hf h; omega
  | succ f ih =>
    intro l hf h
    cases l with
    | nil => simp at h
    | cons c l =>
      rw [sc_step] at h ⊢
      rw [List.cons_append, sc_step, pre_blank [13, 10] l t (by decide)]
      rw [List.length_cons] at hf h
      split at h
      · rename_i h1; rw [if_pos h1, if_pos h1]
      · rename_i h1
        rw [if_neg h1, if_neg h1]
        split at h
        · rename_i h2
          rw [if_pos h2, if_pos h2]
          split at h
          · rename_i h3
            have h4 := prefix_len h3
            simp at h4
            rw [if_pos h3, if_pos h3, List.drop_append_of_le_length h4, ih _ (by rw [List.length_drop]; omega) (by rw [List.length_drop]; omega)]
          · rename_i h3
            have h4 : 1 ≤ l.length := by omega
            rw [if_neg h3, if_neg h3, List.drop_append_of_le_length h4, ih _ (by rw [List.length_drop]; omega) (by rw [List.length_drop]; omega)]
        · rename_i h2
          rw [if_neg h2, if_neg h2, ih l (by omega) (by omega)]
theorem str_blank {l t : List UInt8} (h : (strC l).1 = true) : txt (l ++ 32 :: t) = .fine 4 l.length := by
  cases l with
  | nil => cases h
  | cons q r =>
    have h0 := h
    rw [strC] at h
    split at h
    · cases h
    · rename_i hqq
      have hq : q = 39 ∨ q = 34 := by
        by_cases h1 : q = 39
        · exact .inl h1
        · by_cases h2 : q = 34
          · exact .inr h2
          · exact absurd ⟨h1, h2⟩ hqq
      split at h
      · cases h
      · rename_i h1
        split at h
        · rename_i h2
          have h3 : (prt q r).1 = true := by cases hp : (prt q r).1 with | true => rfl | false => exact absurd hp h1
          obtain ⟨h4, h5⟩ := prtF_sc hq r.length r (prt q r).2 (Nat.le_refl _) (by show prt q r = _; rw [← h3]) (by omega)
          have h6 : sc q (r ++ 32 :: t) = sc q r := sc_blank q t r.length r (Nat.le_refl _) (by omega)
          have h7 : txtL (q :: r ++ 32 :: t) = (q :: r).length := by
            rw [List.cons_append, txtL, if_pos, h6, h4, List.length_cons]
            · omega
            · rw [h6, h4]
              refine ⟨by rw [List.length_append]; omega, ?_⟩
              rw [List.head?_drop, List.getElem?_append_left (by omega)]
              exact h5
          unfold txt
          rw [h7, List.take_left, if_pos h0]
        · cases h
theorem find_congr {p q : List UInt8 → Bool} : ∀ (row : List (List UInt8)), (∀ w ∈ row, p w = q w) → row.find? p = row.find? q
  | [], _ => rfl
  | w :: row, h => by
    rw [List.find?_cons, List.find?_cons, h w (.head _), find_congr row (fun x hx => h x (.tail _ hx))]
theorem pctRow_sign : ∀ w ∈ pctRow, ∀ c ∈ w, c ≠ 32 := by decide
theorem pctIs_blank (l t w : List UInt8) (hw : ∀ c ∈ w, c ≠ 32) : pctIs (l ++ 32 :: t) w = pctIs l w := by
  unfold pctIs
  rw [pre_blank w l t hw]
  cases h : Lib.hasPrefix l w with
  | false => rfl
  | true =>
    cases h2 : (w == [63, 46]) with
    | false => rfl
    | true =>
      have := prefix_len h
      rw [eq_of_beq h2] at this
      rw [List.drop_append_of_le_length (by simpa using this), dig_blank]
theorem pct_blank (goal : Int) (l t : List UInt8) : pct goal (l ++ 32 :: t) = pct goal l := by
  unfold pct
  rw [pre_blank [47, 61] l t (by decide), pre_blank [47] l t (by decide), find_congr pctRow (fun w hw => pctIs_blank l t w (pctRow_sign w hw))]
theorem pct_head {goal : Int} {l : List UInt8} (h : pct goal l ≠ 0) : ∃ c r, l = c :: r ∧ c.toNat < 128 := by
  have hp : ∀ w : List UInt8, w ≠ [] → (∀ c ∈ w, c.toNat < 128) → Lib.hasPrefix l w = true → ∃ c r, l = c :: r ∧ c.toNat < 128 := by
    intro w hw ha hpre
    cases w with
    | nil => exact absurd rfl hw
    | cons a u =>
      cases l with
      | nil => cases hpre
      | cons c r =>
        have h1 : (a == c && Lib.hasPrefix r u) = true := hpre
        rw [Bool.and_eq_true] at h1
        have := eq_of_beq h1.1
        subst this
        exact ⟨a, r, rfl, ha a (.head _)⟩
  have hrow : ∀ w ∈ pctRow, w ≠ [] ∧ ∀ c ∈ w, c.toNat < 128 := by decide
  unfold pct at h
  split at h
  · rename_i h1; exact hp [47, 61] (by decide) (by decide) h1.2
  · split at h
    · rename_i h1; exact hp [47] (by decide) (by decide) h1.2
    · split at h
      · rename_i w hf
        have h1 := List.find?_some hf
        have h2 := List.mem_of_find?_eq_some hf
        unfold pctIs at h1
        rw [Bool.and_eq_true] at h1
        exact hp w (hrow w h2).1 (hrow w h2).2 h1.1
      · exact absurd rfl h
/-- the token is the same. -/
theorem plain_blank {l t : List UInt8} {kind : Int} (h : plainT 1 l = .fine kind l.length) (hl : l ≠ []) : plainT 1 (l ++ 32 :: t) = .fine kind l.length := by
  have hpos := List.length_pos_iff.2 hl
  unfold plainT at h ⊢
  rw [if_neg hl] at h
  rw [if_neg (by simp), pre_blank [96] l t (by decide), pre_blank [35] l t (by decide), pre_blank [46] l t (by decide), pre_blank [39] l t (by decide), pre_blank [34] l t (by decide), pre_blank [47] l t (by decide), dig_blank, List.drop_append_of_le_length hpos, dig_blank, pct_blank]
  split at h
  · rename_i h1
    rw [if_pos h1]
    cases hO : tpl (l.drop 1) with
    | bad off code => rw [hO] at h; cases h
    | fine n b => rw [hO] at h; rw [tpl_blank t _ _ _ _ (Nat.le_refl _) hO]; exact h
  · rename_i h1
    rw [if_neg h1]
    split at h
    · rename_i h2
      rw [if_pos h2]
      unfold priv at h ⊢
      rw [List.drop_append_of_le_length hpos]
      split at h
      · cases h
      · rename_i h3
        split at h
        · cases h
        · rename_i h4
          obtain ⟨e1, e2⟩ := aft_fine_inv h
          have h5 := name_pos h4
          have h6 : nameL false (l.drop 1) = (l.drop 1).length := by rw [List.length_drop]; omega
          have h7 : nameL false (l.drop 1 ++ 32 :: t) = (l.drop 1).length := name_blank h6 (by intro e; rw [e] at h5; exact absurd h5.1 (by decide))
          rw [nx_app _ h5.1, if_neg h3, h7, if_neg (by omega), aft_blank (by rw [List.length_drop]; omega), List.length_drop, e1]
          congr 1
          omega
    · rename_i h2
      rw [if_neg h2]
      split at h
      · rename_i h3
        rw [if_pos h3]
        unfold numT at h ⊢
        split at h
        · cases h
        · rename_i h4
          obtain ⟨e1, e2⟩ := aft_fine_inv h
          rw [num_blank e2.symm hl, if_neg (by omega), aft_blank rfl, e1]
      · rename_i h3
        rw [if_neg h3]
        split at h
        · rename_i h4
          rw [if_pos h4]
          obtain ⟨e1, e2, e3⟩ := txt_kind2 h
          rw [← e2, List.take_length] at e3
          rw [str_blank e3, e1]
        · rename_i h4
          rw [if_neg h4, if_neg (by rintro ⟨h, _⟩; exact absurd h (by decide))]
          rw [if_neg (by rintro ⟨h, _⟩; exact absurd h (by decide))] at h
          split at h
          · rename_i h5
            obtain ⟨e1, e2⟩ := aft_fine_inv h
            rw [name_blank e2.symm hl, if_pos (by omega), aft_blank rfl, e1]
          · rename_i h5
            split at h
            · rename_i h6
              obtain ⟨c, r, rfl, hc⟩ := pct_head h6
              rw [if_neg, if_pos h6]
              · exact h
              · unfold nameL at h5 ⊢
                rw [List.cons_append, nx_ascii c _ hc]
                rw [nx_ascii c _ hc] at h5
                split at h5
                · rename_i h7
                  exfalso
                  apply h5
                  intro e
                  have hg := goesP_start (dash := false) (l := c :: r) (by rw [nx_ascii c _ hc]; exact h7)
                  rw [partsL_yes hg, nx_ascii c _ hc] at e
                  simp at e
                · rename_i h7
                  rw [if_neg h7]
                  decide
            · cases h
theorem plain_neg {l : List UInt8} (hn : (nx l).2 < 0) {kind : Int} {n : Nat} (e : plainT 1 l = .fine kind n) : False := by
  cases l with
  | nil => exact absurd hn (by decide)
  | cons c r =>
    have hc : 128 ≤ c.toNat := by
      by_cases h : c.toNat < 128
      · rw [nx_ascii c r h] at hn; exact absurd (show (1 : Int) < 0 from hn) (by decide)
      · omega
    have hne : ∀ a : UInt8, a.toNat < 128 → c ≠ a := by rintro a ha rfl; omega
    unfold plainT at e
    rw [if_neg (by simp), pre_head (hne 96 (by decide)), pre_head (hne 35 (by decide)), pre_head (hne 46 (by decide)), pre_head (hne 39 (by decide)), pre_head (hne 34 (by decide)), if_neg (by decide), if_neg (by decide), if_neg, if_neg (by decide), if_neg (by rintro ⟨h, _⟩; exact absurd h (by decide)), if_neg, if_neg] at e
    · cases e
    · intro h
      obtain ⟨a, b, hab, ha⟩ := pct_head h
      cases hab
      omega
    · intro h
      have := name_pos h
      omega
    · rintro (h | ⟨h, _⟩)
      · have := of_decide_eq_true h
        omega
      · cases h
theorem nxt_fine_zero {s : ByteArray} {kind : Int} {n : Nat} {line : Bool} (h : nxt s 0 1 = .fine kind 0 n line []) : isGap s.data.toList = false ∧ cmKind 0 s.data.toList = 0 ∧ plainT 1 s.data.toList = .fine kind n ∧ line = false := by
  have htk : ∀ l, tokT 1 l = plainT 1 l := fun l => by
    unfold tokT
    rw [if_neg (by omega), if_neg (by omega), if_neg (by omega)]
  rw [nxt_ok (by omega), if_neg (by omega)] at h
  cases hb : btw s 0 false with
  | bad place code => rw [hb] at h; cases h
  | fine q l cs =>
    rw [hb] at h
    simp only at h
    have hqz : q = 0 ∧ l = line ∧ cs = [] ∧ plainT 1 (s.data.toList.drop q) = .fine kind n := by
      rw [htk] at h
      cases ht : plainT 1 (s.data.toList.drop q) with
      | bad off code => rw [ht] at h; cases h
      | fine k m => rw [ht] at h; cases h; exact ⟨rfl, rfl, rfl, rfl⟩
    obtain ⟨rfl, rfl, rfl, ht⟩ := hqz
    rw [List.drop_zero] at ht
    rw [btw_step s 0 false (Nat.zero_le _), List.drop_zero] at hb
    cases hg : isGap s.data.toList with
    | true =>
      rw [hg, if_pos rfl] at hb
      obtain ⟨m, h3, h4, h5, h6⟩ := isGap_pos hg
      rw [ofl] at h5
      have hin := btw_in s (0 + (nx s.data.toList).2.toNat) (false || endsR (nx s.data.toList).1) (by rw [h3, Int.toNat_natCast]; omega)
      rw [hb, h3, Int.toNat_natCast] at hin
      have hle := CmsIn.le _ hin.1
      omega
    | false =>
      rw [hg, if_neg (by decide)] at hb
      split at hb
      · rename_i h0
        cases hb
        exact ⟨rfl, h0, ht, rfl⟩
      · split at hb
        · cases hc : btw s (0 + 2 + _) (false || _) with
          | bad a b => rw [hc] at hb; cases hb
          | fine a b c => rw [hc] at hb; cases hb
        · cases hb
/-- the first token, with a blank and more behind. -/
theorem ends_first {s t : ByteArray} {kind : Int} {line : Bool} (h : nxt s 0 1 = .fine kind 0 s.size line []) (hs : 0 < s.size) {S : ByteArray} (hS : S.data.toList = s.data.toList ++ 32 :: t.data.toList) : nxt S 0 1 = .fine kind 0 s.size line [] := by
  obtain ⟨h1, h2, h3, rfl⟩ := nxt_fine_zero h
  have hl : s.data.toList ≠ [] := fun e => by rw [← ofl, e] at hs; exact absurd hs (by decide)
  have hnx : 0 < (nx s.data.toList).2 ∨ (nx s.data.toList).2 < 0 := by
    obtain hn | hn | hn : (nx s.data.toList).2 < 0 ∨ (nx s.data.toList).2 = 0 ∨ 0 < (nx s.data.toList).2 := by omega
    · exact .inr hn
    · obtain ⟨m, e1, e2, _, e3⟩ := nx_pos (l := s.data.toList) (by omega)
      exact absurd (e3.2 (by omega)) hl
    · exact .inl hn
  have hg : isGap S.data.toList = false := by
    rw [hS]
    cases hs2 : s.data.toList with
    | nil => exact absurd hs2 hl
    | cons c r =>
      rcases hnx with hn | hn
      · rw [hs2] at h1 hn
        unfold isGap at h1 ⊢
        rw [nx_app _ hn]
        exact h1
      · exfalso
        have hbad : ∀ n, plainT 1 s.data.toList ≠ .fine kind n := by
          intro n e
          exact plain_neg hn e
        exact hbad _ h3
  have hk : cmKind 0 S.data.toList = 0 := by
    rw [hS]
    unfold cmKind at h2 ⊢
    rw [pre_blank [47, 47] _ _ (by decide), pre_blank [47, 42] _ _ (by decide), pre_blank [35, 33] _ _ (by decide)]
    exact h2
  rw [nxt_zero S 1 (.inl rfl) hg hk]
  have htk : tokT 1 S.data.toList = plainT 1 S.data.toList := by
    unfold tokT
    rw [if_neg (by omega), if_neg (by omega), if_neg (by omega)]
  rw [htk, hS, plain_blank (by rw [h3, ofl]) hl, ofl]
/-- the second token, behind the first one and a blank. -/
theorem ends_second {s t : ByteArray} {kind : Int} {n : Nat} {line : Bool} (h : nxt t 0 1 = .fine kind 0 n line []) {S : ByteArray} (hS : S.data.toList = s.data.toList ++ 32 :: t.data.toList) : nxt S s.size 1 = .fine kind (s.size + 1) n false [] := by
  obtain ⟨h1, h2, h3, rfl⟩ := nxt_fine_zero h
  have hd : S.data.toList.drop s.size = 32 :: t.data.toList := by rw [hS, ← ofl s, List.drop_left]
  have hd1 : S.data.toList.drop (s.size + 1) = t.data.toList := by rw [← List.drop_drop, hd]; rfl
  have hsz : S.size = s.size + 1 + t.size := by rw [← ofl, hS, List.length_append, List.length_cons, ofl, ofl]; omega
  have hb : btw S s.size false = .fine (s.size + 1) false [] := by
    rw [btw_gap (c := 32) (rest := t.data.toList) false hd (by decide) (by decide +kernel)]
    refine btw_stay (by omega) _ (by rw [hd1]; exact h1) ?_
    rw [hd1]
    unfold cmKind at h2 ⊢
    split at h2
    · omega
    · rename_i a
      rw [if_neg a]
      split at h2
      · omega
      · rename_i b
        rw [if_neg b, if_neg (by omega)]
  rw [nxt_ok (by omega), if_neg (by omega), hb]
  simp only [hd1]
  have htk : tokT 1 t.data.toList = plainT 1 t.data.toList := by
    unfold tokT
    rw [if_neg (by omega), if_neg (by omega), if_neg (by omega)]
  rw [htk, h3]
end Go.Proofs.YtdkkfbakggbaeaaDoor
