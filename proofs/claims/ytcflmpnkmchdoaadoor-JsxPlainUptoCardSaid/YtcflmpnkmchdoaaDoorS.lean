/- Plain law: what the reference makes of an entity is what entAt says. No program in sight. -/
import Derived.Test.YtcflmpnkmchdoaaDoorK
namespace Go.Proofs.YtcflmpnkmchdoaaDoor

/-- may a byte stand in what the reference takes for a name? -/
def isQ (c : UInt8) : Bool := !(c == 59) && !(c == 38)
def refName (l : List UInt8) : List UInt8 := l.takeWhile isQ
theorem isQ_of_isN {c : UInt8} (h : isN c = true) : isQ c = true := by
  have g : ∀ n : Fin 256, isN (UInt8.ofNat n.val) = true → isQ (UInt8.ofNat n.val) = true := by decide +kernel
  have := g ⟨c.toNat, c.toNat_lt⟩
  simp only [UInt8.ofNat_toNat] at this
  exact this h
theorem isN_of_hexV {c : UInt8} (h : hexV c < 16) : isN c = true := by
  have g : ∀ n : Fin 256, hexV (UInt8.ofNat n.val) < 16 → isN (UInt8.ofNat n.val) = true := by decide +kernel
  have := g ⟨c.toNat, c.toNat_lt⟩
  simp only [UInt8.ofNat_toNat] at this
  exact this h
/-- either the two names are one, or the shorter ends at a byte that is no ;. -/
theorem names (l : List UInt8) : (nameOf l = refName l ∧ (refName l).all isN = true) ∨ (l[(nameOf l).length]? ≠ some 59 ∧ (refName l).all isN = false) := by
  induction l with
  | nil => left; exact ⟨rfl, rfl⟩
  | cons c l ih =>
    unfold nameOf refName at *
    rw [List.takeWhile_cons, List.takeWhile_cons]
    by_cases h : isN c = true
    · rw [if_pos h, if_pos (isQ_of_isN h)]
      rcases ih with ⟨h1, h2⟩ | ⟨h1, h2⟩
      · left; exact ⟨by rw [h1], by rw [List.all_cons, h2, h]; rfl⟩
      · right; exact ⟨by simpa using h1, by rw [List.all_cons, h2, h]; rfl⟩
    · rw [if_neg h]
      by_cases hq : isQ c = true
      · rw [if_pos hq]
        right
        refine ⟨?_, by rw [List.all_cons]; simp at h; rw [h]; rfl⟩
        simp only [List.length_nil, List.getElem?_cons_zero, ne_eq, Option.some.injEq]
        rintro rfl
        revert hq; decide
      · rw [if_neg hq]; left; exact ⟨rfl, rfl⟩
theorem numGo_all (base : Nat) (hb : base ≤ 16) : ∀ (l : List UInt8) (m n : Nat), numGo base m l = some n → l.all isN = true
  | [], _, _, _ => rfl
  | c :: l, m, n, h => by
    rw [numGo] at h
    split at h
    · rename_i hc
      rw [List.all_cons, numGo_all base hb l _ n h, isN_of_hexV (by omega)]; rfl
    · cases h
theorem numX_all (base : Nat) (hb : base ≤ 16) (l : List UInt8) (h : numX base l ≠ -1) : l.all isN = true := by
  unfold numX numR at h
  cases e : numGo base 0 l with
  | none => rw [e] at h; exact absurd rfl h
  | some m => exact numGo_all base hb l 0 m e
theorem named_all (l : List UInt8) (h : named l ≠ 0) : l.all isN = true := by
  apply Classical.byContradiction
  intro hn
  refine h (named_none l fun j hj e => hn ?_)
  have g : ∀ j : Fin 11, (refNames[j.val]!).all isN = true := by decide +kernel
  rw [e]; exact g ⟨j, hj⟩
theorem named_35 (l : List UInt8) : named (35 :: l) = 0 := by
  apply named_none
  intro j hj e
  have g : ∀ j : Fin 11, (refNames[j.val]!).head? ≠ some 35 := by decide +kernel
  exact g ⟨j, hj⟩ (by rw [← e]; rfl)
theorem numX_ge (base : Nat) (l : List UInt8) : -1 ≤ numX base l := by unfold numX; split <;> omega
theorem numX_le (base : Nat) (l : List UInt8) : numX base l ≤ 1114112 := by have := numR_le base l; unfold numX; split <;> omega
theorem numZ_ge (l : List UInt8) : -1 ≤ numZ l := by unfold numZ; split <;> exact numX_ge _ _
theorem numZ_le (l : List UInt8) : numZ l ≤ 1114112 := by unfold numZ; split <;> exact numX_le _ _
theorem numZ_all (l : List UInt8) (h : numZ (35 :: l) ≠ -1) : (35 :: l).all isN = true := by
  rw [List.all_cons, show isN 35 = true by decide, Bool.true_and]
  unfold numZ at h
  split at h
  · rename_i hx
    have := numX_all 16 (by omega) _ h
    cases l with
    | nil => rfl
    | cons c l =>
      simp at hx
      rw [List.all_cons, hx, show isN 120 = true by decide]
      exact this
  · exact numX_all 10 (by omega) _ h
theorem num3_of (base : Nat) (l : List UInt8) : num3 (numR base l) = ((numR base l).1, (!(numX base l == -1), numX base l == -1 || (decide (numX base l ≤ 1114111) && !(decide (55296 ≤ numX base l) && decide (numX base l ≤ 57343))))) := by
  have hle := numR_le base l
  unfold num3 numX
  generalize numR base l = p at *
  obtain ⟨n, b⟩ := p
  cases b
  · rfl
  · simp only [if_true]
    have e1 : (((n : Nat) : Int) == -1) = false := by rw [beq_eq_false_iff_ne]; omega
    rw [e1]
    have e2 : decide (n ≤ 1114111) = decide (((n : Nat) : Int) ≤ 1114111) := by congr 1; apply propext; omega
    have e3 : (n / 2048 == 27) = (decide (55296 ≤ ((n : Nat) : Int)) && decide (((n : Nat) : Int) ≤ 57343)) := by
      rw [Bool.eq_iff_iff]; simp only [beq_iff_eq, Bool.and_eq_true, decide_eq_true_eq]; omega
    rw [e2, e3]; rfl
theorem numX_pos (base : Nat) (l : List UInt8) (h : numX base l ≠ -1) : numX base l = ((numR base l).1 : Nat) := by unfold numX at *; split at h <;> simp_all
theorem entR_35 (l : List UInt8) : entR (35 :: l) = ((entR (35 :: l)).1, !(numZ (35 :: l) == -1), numZ (35 :: l) == -1 || (decide (numZ (35 :: l) ≤ 1114111) && !(decide (55296 ≤ numZ (35 :: l)) && decide (numZ (35 :: l) ≤ 57343)))) ∧ (numZ (35 :: l) ≠ -1 → ((entR (35 :: l)).1 : Int) = numZ (35 :: l)) := by
  have hp : Lib.hasPrefix (35 :: l) [35] = true := by simp [Lib.hasPrefix]
  by_cases h : Lib.hasPrefix (35 :: l) [35, 120] = true
  · have hz : numZ (35 :: l) = numX 16 ((35 :: l).drop 2) := by
      cases l with
      | nil => simp [Lib.hasPrefix] at h
      | cons c l => simp [Lib.hasPrefix] at h; subst h; rfl
    rw [hz]
    unfold entR
    rw [if_pos h, num3_of]
    exact ⟨rfl, fun h => (numX_pos _ _ h).symm⟩
  · have hz : numZ (35 :: l) = numX 10 ((35 :: l).drop 1) := by
      unfold numZ
      rw [if_neg]
      intro hx
      apply h
      cases l with
      | nil => simp at hx
      | cons c l => simp at hx; subst hx; simp [Lib.hasPrefix]
    rw [hz]
    unfold entR
    rw [if_neg h, if_pos hp, num3_of]
    exact ⟨rfl, fun h => (numX_pos _ _ h).symm⟩
theorem not35 (c : UInt8) (l p : List UInt8) (h : ¬ c = 35) : Lib.hasPrefix (c :: l) (35 :: p) = false := by
  show ((35 == c) && _) = false
  rw [show (35 == c) = false by rw [beq_eq_false_iff_ne]; exact Ne.symm h]
  rfl
theorem entR_not35 (l : List UInt8) (h : l.head? ≠ some 35) : entR l = (named l, !(named l == 0), true) := by
  have h1 : Lib.hasPrefix l [35] = false := by
    cases l with
    | nil => rfl
    | cons c l => simp at h; exact not35 _ _ _ h
  have h2 : Lib.hasPrefix l [35, 120] = false := by
    cases l with
    | nil => rfl
    | cons c l => simp at h; exact not35 _ _ _ h
  unfold entR
  rw [if_neg (by rw [h2]; decide), if_neg (by rw [h1]; decide)]
/-- behind a & that begins no name of the reference's. -/
theorem ref_no (l : List UInt8) (h : l[(refName l).length]? ≠ some 59 ∨ refName l = []) : (entAt l).2 = (false, true) := by
  unfold entAt
  rcases names l with ⟨h1, _⟩ | ⟨h1, _⟩
  · split
    · rename_i hs
      rw [h1] at hs
      rcases h with h | h
      · exact absurd hs h
      · rw [h1, h]; rfl
    · rfl
  · rw [if_neg h1]
/-- behind a & that begins one. -/
theorem ref_yes (l : List UInt8) (h : l[(refName l).length]? = some 59) :
    (entAt l).2 = (entR (refName l)).2 ∧ ((entR (refName l)).2.1 = true → (entAt l).1 = (entR (refName l)).1 ∧ nameOf l = refName l) := by
  unfold entAt
  rcases names l with ⟨h1, _⟩ | ⟨h1, h2⟩
  · rw [h1, if_pos h]
    exact ⟨rfl, fun _ => ⟨rfl, rfl⟩⟩
  · rw [if_neg h1]
    have e : (entR (refName l)).2 = (false, true) := by
      generalize refName l = q at *
      by_cases h35 : q.head? = some 35
      · cases q with
        | nil => cases h35
        | cons c q =>
          simp at h35
          subst h35
          have hz : numZ (35 :: q) = -1 := Classical.byContradiction fun hn => by rw [numZ_all q hn] at h2; cases h2
          rw [(entR_35 q).1, hz]
          rfl
      · rw [entR_not35 q h35]
        have hz : named q = 0 := Classical.byContradiction fun hn => by rw [named_all q hn] at h2; cases h2
        rw [hz]
        rfl
    rw [e]
    exact ⟨rfl, fun h => by cases h⟩
end Go.Proofs.YtcflmpnkmchdoaaDoor
