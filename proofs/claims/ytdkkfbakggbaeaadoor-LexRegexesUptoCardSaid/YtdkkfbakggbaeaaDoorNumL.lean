/- LexNumbers: a number is a token by itself just if it is one: plain, and the function. -/
import Derived.Test.YtdkkfbakggbaeaaDoorOnly
namespace Go.Proofs.YtdkkfbakggbaeaaDoor
open Go.RowKit

theorem aft_fine_inv {l : List UInt8} {kd k : Int} {n m : Nat} (h : aft l kd n = .fine k m) : k = kd ∧ m = n := by
  unfold aft at h
  split at h
  · cases h
  · cases h; exact ⟨rfl, rfl⟩
theorem tpTk_kind {o : TpO} {kh kt k : Int} {n : Nat} (h : tpTk kh kt o = .fine k n) : k = kh ∨ k = kt := by
  cases o with
  | fine m b =>
    simp only [tpTk, TkO.fine.injEq] at h
    obtain ⟨h1, _⟩ := h
    split at h1
    · exact .inl h1.symm
    · exact .inr h1.symm
  | bad off code => cases h
theorem txt_kind2 {l : List UInt8} {k : Int} {n : Nat} (h : txt l = .fine k n) : k = 4 ∧ n = txtL l ∧ (strC (l.take (txtL l))).1 = true := by
  unfold txt at h
  split at h
  · rename_i h1; cases h; exact ⟨rfl, rfl, h1⟩
  · split at h <;> cases h
theorem rgTk_kind {l : List UInt8} {o : TpO} {k : Int} {n : Nat} (h : rgTk l o = .fine k n) : k = 6 := by
  cases o with
  | fine m b => exact (aft_fine_inv h).1
  | bad off code => cases h
/-- a number's token. -/
theorem plain_num {goal : Int} {l : List UInt8} {n : Nat} (h : plainT goal l = .fine 3 n) : n = numL l ∧ numL l ≠ 0 := by
  unfold plainT at h
  split at h
  · cases h
  · split at h
    · have := tpTk_kind h; omega
    · split at h
      · unfold priv at h
        split at h
        · cases h
        · split at h
          · cases h
          · have := (aft_fine_inv h).1; omega
      · split at h
        · unfold numT at h
          split at h
          · cases h
          · rename_i h0
            exact ⟨(aft_fine_inv h).2, h0⟩
        · split at h
          · have := (txt_kind2 h).1; omega
          · split at h
            · have := rgTk_kind h; omega
            · split at h
              · have := (aft_fine_inv h).1; omega
              · split at h
                · cases h
                · cases h
theorem runN_head {b : Nat} {l : List UInt8} (h : 0 < runN b false l) : headD b l = true := by
  cases l with
  | nil => exact absurd h (Nat.lt_irrefl 0)
  | cons c t =>
    rw [runN] at h
    split at h
    · rename_i h1; exact h1
    · rw [if_neg (by rintro ⟨_, h2, _⟩; cases h2)] at h
      omega
theorem headD_dig {b : Nat} {l : List UInt8} (hb : b = 0) (h : headD b l = true) : digAt l = true := by
  subst hb
  cases l with
  | nil => cases h
  | cons c t =>
    change isD 0 c = true at h
    unfold isD at h
    show decide (48 ≤ c.toNat ∧ c.toNat ≤ 57) = true
    split at h
    · exact decide_eq_true (by omega)
    · split at h
      · exact decide_eq_true (by omega)
      · split at h
        · exact decide_eq_true (by omega)
        · have := of_decide_eq_true h
          omega
theorem pre48 {l : List UInt8} (h : Lib.hasPrefix l [48] = true) : digAt l = true := by
  cases l with
  | nil => cases h
  | cons c t =>
    have h1 : ((48 : UInt8) == c && true) = true := h
    rw [Bool.and_true] at h1
    have h2 := eq_of_beq h1
    subst h2
    rfl
/-- what scan takes begins with a digit, or with a point and a digit. -/
theorem scanB_head {s : ByteArray} (h : (scanB s).2.2 = true) : digAt s.data.toList = true ∨ (Lib.hasPrefix s.data.toList [46] = true ∧ digAt (s.data.toList.drop 1) = true) := by
  unfold scanB at h
  cases ho : isOth s with
  | true =>
    left
    unfold isOth at ho
    split at ho
    · rename_i h2
      simp only [Bool.and_eq_true] at ho
      have h48 := eq_of_beq ho.1.1
      have := drop_cons s 0 (by omega)
      rw [List.drop_zero] at this
      rw [this, h48]
      rfl
    · cases ho
  | false =>
    rw [ho, if_neg (by decide)] at h
    unfold scanDec at h
    simp only at h
    split at h
    · cases h
    · rename_i hne
      simp only [Bool.and_eq_true, decide_eq_true_eq] at hne
      by_cases hw : (wholeO s).1.size = 0
      · have hp : (partO (wholeO s).2).2.1.size ≠ 0 := fun e => hne ⟨hw, e⟩
        right
        unfold wholeO at hw hp
        cases h48 : Lib.hasPrefix s.data.toList [48] with
        | true =>
          rw [h48, if_pos rfl] at hw
          exact absurd (show (1 : Nat) = 0 from hw) (by decide)
        | false =>
          rw [h48, if_neg (by simp)] at hw hp
          have hr0 : runN 0 false s.data.toList = 0 := by
            unfold runB at hw
            simp only [ByteArray.size_extract] at hw
            have := runN_le 0 false s.data.toList
            rw [ofl] at this
            omega
          have hrest : (runB 0 s).2 = s := by
            unfold runB
            rw [hr0]
            exact ByteArray.extract_zero_size
          rw [hrest] at hp
          unfold partO at hp
          cases h46 : Lib.hasPrefix s.data.toList [46] with
          | false =>
            rw [h46, if_neg (by simp)] at hp
            exact absurd rfl hp
          | true =>
            rw [h46, if_pos rfl] at hp
            refine ⟨rfl, headD_dig rfl (runN_head ?_)⟩
            unfold runB at hp
            simp only [ByteArray.size_extract] at hp
            have e : (s.extract 1 s.size).data.toList = s.data.toList.drop 1 := extract_drop s 1
            rw [e] at hp
            omega
      · left
        unfold wholeO at hw
        cases h48 : Lib.hasPrefix s.data.toList [48] with
        | true => exact pre48 h48
        | false =>
          rw [h48, if_neg (by simp)] at hw
          refine headD_dig rfl (runN_head ?_)
          unfold runB at hw
          simp only [ByteArray.size_extract] at hw
          omega
/-- what a byte that begins a token does not begin. -/
theorem low_gap (c : UInt8) (t : List UInt8) (h : 33 ≤ c.toNat) (h2 : c.toNat < 127) : isGap (c :: t) = false := by
  unfold isGap
  rw [nx_ascii c t (by omega)]
  have hall : ∀ c : Fin 256, 33 ≤ c.val → c.val < 127 → (endsR ((c.val : Nat) : Int) || blankR ((c.val : Nat) : Int)) = false := by decide +kernel
  have := hall ⟨c.toNat, c.toNat_lt⟩ h h2
  simp only at this ⊢
  rw [this]
  rfl
theorem pre_head {c a : UInt8} {t r : List UInt8} (h : c ≠ a) : Lib.hasPrefix (c :: t) (a :: r) = false := by
  show (a == c && _) = false
  rw [show (a == c) = false by rw [beq_eq_false_iff_ne]; exact fun e => h e.symm]
  rfl
theorem low_kind (c : UInt8) (t : List UInt8) (h1 : c ≠ 47) (h2 : c ≠ 35) : cmKind 0 (c :: t) = 0 := by
  unfold cmKind
  rw [pre_head h1, pre_head h1, pre_head h2]
  rfl
/-- a text that begins with such a byte: what Next reads begins at once. -/
theorem nxt_low (s : ByteArray) (goal : Int) (hg : goal = 1 ∨ goal = 2) (c : UInt8) (t : List UInt8) (hs : s.data.toList = c :: t) (h : 33 ≤ c.toNat) (h2 : c.toNat < 127) (h3 : c ≠ 47) (h4 : c ≠ 35) :
    nxt s 0 goal = match plainT goal (c :: t) with
      | .fine kind n => .fine kind 0 n false []
      | .bad off code => .bad ((0 + off : Nat) : Int) code := by
  have hb : btw s 0 false = .fine 0 false [] := btw_stay (Nat.zero_le _) false (by rw [List.drop_zero, hs]; exact low_gap c t h h2) (by rw [List.drop_zero, hs]; exact low_kind c t h3 h4)
  rw [nxt_ok (by omega), if_neg (by omega), hb]
  simp only [List.drop_zero]
  unfold tokT
  rw [if_neg (by omega), if_neg (by omega), if_neg (by omega), hs]
  cases plainT goal (c :: t) <;> rfl
theorem only_num (s : ByteArray) : onlyB s 1 3 = (readB s).2 := by
  rw [Bool.eq_iff_iff]
  constructor
  · intro h
    unfold onlyB at h
    cases hO : nxt s 0 1 with
    | bad place code => rw [hO] at h; cases h
    | fine k q n line cs =>
      rw [hO] at h
      obtain ⟨rfl, rfl, rfl, rfl⟩ := of_decide_eq_true h
      rw [nxt_ok (by omega), if_neg (by omega)] at hO
      cases hb : btw s 0 false with
      | bad place code => rw [hb] at hO; cases hO
      | fine q line' cs' =>
        rw [hb] at hO
        simp only at hO
        cases ht : tokT 1 (s.data.toList.drop q) with
        | bad off code => rw [ht] at hO; cases hO
        | fine kd m =>
          rw [ht] at hO
          cases hO
          rw [List.drop_zero] at ht
          unfold tokT at ht
          rw [if_neg (by omega), if_neg (by omega), if_neg (by omega)] at ht
          obtain ⟨h1, h2⟩ := plain_num ht
          have h3 : longL s.data.toList = s.size := by
            unfold numL at h1 h2
            split at h1
            · rename_i hc; rw [if_pos hc] at h2; exact absurd rfl h2
            · exact h1.symm
          have h4 : longB s = s.size := by
            have e : longL s.data.toList = longB s := by unfold longL; rw [byteArray_ext s s.data.toList rfl]
            rw [← e]; exact h3
          have hpos : 0 < s.size := by omega
          unfold longB at h4
          split at h4
          · rename_i hok
            unfold readB
            simp only
            rw [hok, Bool.true_and]
            exact isEmpty_zero (by have := scanB_size s; omega)
          · omega
  · intro h
    unfold readB at h
    simp only [Bool.and_eq_true] at h
    obtain ⟨hok, hem⟩ := h
    have hz := size_of_empty hem
    have hlong : longB s = s.size := by unfold longB; rw [if_pos hok, hz]; rfl
    have hll : longL s.data.toList = s.size := by
      have e : longL s.data.toList = longB s := by unfold longL; rw [byteArray_ext s s.data.toList rfl]
      rw [e]; exact hlong
    have hhead := scanB_head hok
    cases hl : s.data.toList with
    | nil =>
      rw [hl] at hhead
      rcases hhead with h | ⟨h, _⟩ <;> cases h
    | cons c t =>
      rw [hl] at hhead
      have hc : (48 ≤ c.toNat ∧ c.toNat ≤ 57) ∨ c = 46 := by
        rcases hhead with h | ⟨h, _⟩
        · exact .inl (of_decide_eq_true h)
        · right
          have h1 : ((46 : UInt8) == c && true) = true := h
          rw [Bool.and_true] at h1
          exact (eq_of_beq h1).symm
      have hcr : 46 ≤ c.toNat ∧ c.toNat ≤ 57 ∧ c.toNat ≠ 47 := by
        rcases hc with h | rfl
        · omega
        · decide
      have hne : ∀ a : UInt8, (a.toNat < 46 ∨ 57 < a.toNat ∨ a.toNat = 47) → c ≠ a := by
        rintro a h rfl
        omega
      have hnum : numL (c :: t) = s.size := by
        unfold numL
        rw [hl] at hll
        have hlen : (c :: t).length = s.size := by rw [← hl, ofl]
        rw [hll, List.drop_of_length_le (by omega), if_neg]
        rintro ⟨h0, _⟩
        exact absurd h0 (by decide)
      have hlen : (c :: t).length = s.size := by rw [← hl, ofl]
      have hpos : 0 < s.size := by rw [← hlen]; simp
      have hpl : plainT 1 (c :: t) = .fine 3 s.size := by
        unfold plainT
        rw [if_neg (by simp), if_neg (by rw [pre_head (hne 96 (by decide))]; decide), if_neg (by rw [pre_head (hne 35 (by decide))]; decide), if_pos hhead]
        unfold numT
        rw [hnum, if_neg (by omega)]
        exact aft_fine (by rw [List.drop_of_length_le (by omega)]; decide)
      unfold onlyB
      rw [nxt_low s 1 (.inl rfl) c t hl (by omega) (by omega) (hne 47 (by decide)) (hne 35 (by decide)), hpl]
      exact decide_eq_true ⟨rfl, rfl, rfl, rfl⟩
set_option maxRecDepth 20000 in
set_option maxHeartbeats 1000000 in
theorem numbers_any (s : ByteArray) (w : World) (hs : s.size ≤ 16777216) (hX : Lx w) :
    Calls Tryd.prog 12 #[.string s] w fun e w' => e = .returned (.bool true) ∧ Below w.heap.size w w' := by
  have hA := lawake_any w hX
  have hC := fun W h => check_any s W hs h
  have hO := fun W h => only_any s 1 3 W hs h
  rw [only_num s] at hO
  generalize (readB s).2 = r at *
  have HA := Lib.hid hA
  have HC := Lib.hid hC
  have HO := Lib.hid hO
  have HX := Lib.hid hX
  clear hA hC hO hX
  cases r with
  | true =>
    go_enter Tryd.func12, Tryd.ntmps12
    go_upto_region 3 with (go_at_call 13; refine HA.out.mono ?_; rintro e w1 ⟨rfl, hb1⟩)
    go_upto_region 4 with (go_at_call 20; refine (HC.out _ (HX.out.bel hb1).max).mono ?_; rintro e w2 ⟨rfl, hb2⟩)
    go_wp2_with (first | (go_at_call 17; refine (HO.out _ ((HX.out.bel hb1).bel hb2)).mono ?_; rintro e w3 ⟨rfl, hb3⟩) | (go_at_call 15; refine (lnum_any _ _).mono ?_; rintro e w' ⟨rfl, rfl⟩))
    go_ret
    exact ⟨rfl, bel_next (bel_next hb1 hb2) hb3⟩
  | false =>
    go_enter Tryd.func12, Tryd.ntmps12
    go_upto_region 3 with (go_at_call 13; refine HA.out.mono ?_; rintro e w1 ⟨rfl, hb1⟩)
    go_upto_region 4 with (go_at_call 20; refine (HC.out _ (HX.out.bel hb1).max).mono ?_; rintro e w2 ⟨rfl, hb2⟩)
    go_wp2_with (first | (go_at_call 17; refine (HO.out _ ((HX.out.bel hb1).bel hb2)).mono ?_; rintro e w3 ⟨rfl, hb3⟩) | (go_at_call 15; refine (lnum_any _ _).mono ?_; rintro e w' ⟨rfl, rfl⟩))
    go_ret
    exact ⟨rfl, bel_next (bel_next hb1 hb2) hb3⟩
end Go.Proofs.YtdkkfbakggbaeaaDoor
