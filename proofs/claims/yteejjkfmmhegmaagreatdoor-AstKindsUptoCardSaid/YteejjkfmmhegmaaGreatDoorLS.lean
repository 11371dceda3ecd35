/- Plain: a fault has a number; comments, one by one. -/
import Derived.Test.YteejjkfmmhegmaaGreatDoorLQ
namespace Go.Proofs.YteejjkfmmhegmaaGreatDoor
open Go.RowKit

def TpO.Nz : TpO → Prop
  | .fine _ _ => True
  | .bad _ code => code ≠ 0
theorem TpO.Nz.shift {o : TpO} {k : Nat} (h : o.Nz) : (o.shift k).Nz := by cases o <;> exact h
theorem tplF_nz : ∀ (f : Nat) (l : List UInt8), l.length < f → (tplF f l).Nz
  | 0, _, h => by omega
  | f + 1, l, hf => by
    rw [tplF]
    split
    · trivial
    · split
      · trivial
      · split
        · show (505 : Int) ≠ 0; decide
        · split
          · show (502 : Int) ≠ 0; decide
          · obtain ⟨m, h3, h4, h5, h6⟩ := nx_pos (l := l.drop (esc l)) (by omega)
            have := esc_le l
            rw [List.length_drop] at h4
            exact (tplF_nz f _ (by rw [List.length_drop, h3, Int.toNat_natCast]; omega)).shift
theorem rgxF_nz : ∀ (f : Nat) (first cls : Bool) (l : List UInt8), l.length < f → (rgxF f first cls l).Nz
  | 0, _, _, _, h => by omega
  | f + 1, first, cls, l, hf => by
    rw [rgxF]
    split
    · show (506 : Int) ≠ 0; decide
    · split
      · trivial
      · split
        · show (506 : Int) ≠ 0; decide
        · split
          · show (502 : Int) ≠ 0; decide
          · obtain ⟨m, h3, h4, h5, h6⟩ := nx_pos (l := l.drop (escC (nx l).1)) (by omega)
            rw [List.length_drop] at h4
            exact (rgxF_nz f _ _ _ (by rw [List.length_drop, h3, Int.toNat_natCast]; omega)).shift
theorem attF_nz (q : UInt8) : ∀ (f : Nat) (l : List UInt8), l.length < f → (attF q f l).Nz
  | 0, _, h => by omega
  | f + 1, l, hf => by
    rw [attF]
    split
    · trivial
    · split
      · show (504 : Int) ≠ 0; decide
      · split
        · show (502 : Int) ≠ 0; decide
        · obtain ⟨m, h3, h4, h5, h6⟩ := nx_pos (l := l) (by omega)
          exact (attF_nz q f _ (by rw [List.length_drop, h3, Int.toNat_natCast]; omega)).shift
def TkO.Nz : TkO → Prop
  | .fine _ _ => True
  | .bad _ code => code ≠ 0
theorem aft_nz (l : List UInt8) (kind : Int) (n : Nat) : (aft l kind n).Nz := by
  unfold aft
  split
  · show (502 : Int) ≠ 0; decide
  · trivial
theorem tpTk_nz {o : TpO} {kh kt : Int} (h : o.Nz) : (tpTk kh kt o).Nz := by
  cases o with
  | fine n b => trivial
  | bad off code => exact h
theorem odd_nz (l : List UInt8) : (odd l).Nz := by
  unfold odd
  show (if _ then (508 : Int) else 502) ≠ 0
  split <;> decide
theorem plainT_nz (goal : Int) (l : List UInt8) : (plainT goal l).Nz := by
  unfold plainT
  split
  · trivial
  · split
    · exact tpTk_nz (tplF_nz _ _ (Nat.lt_succ_self _))
    · split
      · unfold priv
        split
        · show (502 : Int) ≠ 0; decide
        · split
          · show (509 : Int) ≠ 0; decide
          · exact aft_nz _ _ _
      · split
        · unfold numT
          split
          · show (503 : Int) ≠ 0; decide
          · exact aft_nz _ _ _
        · split
          · unfold txt
            split
            · trivial
            · split
              · show (502 : Int) ≠ 0; decide
              · show (504 : Int) ≠ 0; decide
          · split
            · have h := rgxF_nz _ true false (l.drop 1) (Nat.lt_succ_self _)
              change (rgx true false (l.drop 1)).Nz at h
              cases hr : rgx true false (l.drop 1) with
              | fine n b => exact aft_nz _ _ _
              | bad off code => rw [hr] at h; exact h
            · split
              · exact aft_nz _ _ _
              · split
                · trivial
                · exact odd_nz l
theorem tagT_nz (l : List UInt8) : (tagT l).Nz := by
  cases l with
  | nil => trivial
  | cons c l =>
    rw [tagT]
    split
    · have h := attF_nz c _ l (Nat.lt_succ_self _)
      change (att c l).Nz at h
      cases ha : att c l with
      | fine n b => trivial
      | bad off code => rw [ha] at h; exact h
    · split
      · trivial
      · split
        · exact aft_nz _ _ _
        · exact odd_nz _
theorem childT_nz (l : List UInt8) : (childT l).Nz := by
  unfold childT
  split
  · show (502 : Int) ≠ 0; decide
  · split
    · trivial
    · split
      · trivial
      · split
        · trivial
        · exact odd_nz l
theorem tokT_nz (goal : Int) (l : List UInt8) : (tokT goal l).Nz := by
  unfold tokT
  split
  · exact tpTk_nz (tplF_nz _ _ (Nat.lt_succ_self _))
  · split
    · exact childT_nz l
    · split
      · exact tagT_nz l
      · exact plainT_nz goal l
theorem cmtF_nz (blk : Bool) : ∀ (f : Nat) (l : List UInt8) (off : Nat) (code : Int), l.length < f → cmtF blk f l = .bad off code → code ≠ 0
  | 0, _, _, _, h, _ => by omega
  | f + 1, l, off, code, hf, h => by
    rw [cmtF] at h
    split at h
    · cases h
    · split at h
      · split at h
        · cases h; decide
        · cases h
      · split at h
        · cases h; decide
        · split at h
          · cases h
          · rename_i h0 hn _
            obtain ⟨m, h3, h4, h5, h6⟩ := nx_pos (l := l) (by omega)
            cases hc : cmtF blk f (l.drop (nx l).2.toNat) with
            | fine a c => rw [hc] at h; cases h
            | bad a c =>
              rw [hc] at h
              cases h
              exact cmtF_nz blk f _ _ _ (by rw [List.length_drop]; omega) hc
def BtO.Nz : BtO → Prop
  | .fine _ _ _ => True
  | .bad _ code => code ≠ 0
theorem btwF_nz (s : ByteArray) : ∀ (f p : Nat) (line : Bool), p ≤ s.size → s.size - p < f → (btwF s f p line).Nz
  | 0, _, _, _, h => by omega
  | f + 1, p, line, hp, hf => by
    rw [btwF]
    cases hg : isGap (s.data.toList.drop p) with
    | true =>
      rw [if_pos rfl]
      obtain ⟨n, h3, h4, h5, h6⟩ := isGap_pos hg
      rw [List.length_drop, ofl] at h5
      rw [h3, Int.toNat_natCast]
      exact btwF_nz s f (p + n) _ (by omega) (by omega)
    | false =>
      rw [if_neg (by decide)]
      by_cases hk : cmKind p (s.data.toList.drop p) = 0
      · rw [if_pos hk]
        trivial
      · rw [if_neg hk]
        have hl := cmKind_len hk
        rw [List.length_drop, ofl] at hl
        cases hc : cmt (decide (cmKind p (s.data.toList.drop p) = 2)) (s.data.toList.drop (p + 2)) with
        | fine n ln =>
          have h1 := cmt_le hc
          rw [List.length_drop, ofl] at h1
          have h2 := btwF_nz s f (p + 2 + n) (line || ln) (by omega) (by omega)
          simp only
          cases hb : btwF s f (p + 2 + n) (line || ln) with
          | fine q l2 cs => trivial
          | bad place code => rw [hb] at h2; exact h2
        | bad off code => exact cmtF_nz _ _ _ off code (Nat.lt_succ_self _) hc
def NxO.Nz : NxO → Prop
  | .fine _ _ _ _ _ => True
  | .bad _ code => code ≠ 0
theorem nxt_nz (s : ByteArray) (p : Nat) (goal : Int) (hp : p ≤ s.size) : (nxt s p goal).Nz := by
  unfold nxt
  split
  · show (501 : Int) ≠ 0; decide
  · have hb : (if goal = 3 ∨ goal = 4 then BtO.fine p false [] else btw s p false).Nz := by
      split
      · trivial
      · exact btwF_nz s _ p false hp (by omega)
    cases hbt : (if goal = 3 ∨ goal = 4 then BtO.fine p false [] else btw s p false) with
    | bad place code => rw [hbt] at hb; exact hb
    | fine q line cs =>
      simp only
      have ht := tokT_nz goal (s.data.toList.drop q)
      cases hto : tokT goal (s.data.toList.drop q) with
      | fine kind n => trivial
      | bad off code => rw [hto] at ht; exact ht
theorem CmsIn.get {s : ByteArray} {q : Nat} : ∀ (cs : List Cm) {p : Nat}, CmsIn s p q cs → ∀ (i : Nat) (hi : i < cs.length), ∃ f t : Nat, cs[i].from' = (f : Int) ∧ cs[i].till = (t : Int) ∧ p ≤ f ∧ f < t ∧ t ≤ q ∧ cs[i].text = s.extract f t ∧
    (∀ (j : Nat) (hj : j + 1 = i), ∃ u : Nat, (cs[j]'(by omega)).till = (u : Int) ∧ u ≤ f)
  | [], _, _, _, hi => absurd hi (by simp)
  | c :: cs, p, h, 0, _ => by
    obtain ⟨f, t, h1, h2, h3, h4, h5, h6⟩ := h
    exact ⟨f, t, h1, h2, h3, h4, CmsIn.le cs h6, h5, fun j hj => by omega⟩
  | c :: cs, p, h, i + 1, hi => by
    obtain ⟨f, t, h1, h2, h3, h4, h5, h6⟩ := h
    obtain ⟨f', t', g1, g2, g3, g4, g5, g6, g7⟩ := CmsIn.get cs h6 i (by simpa using hi)
    refine ⟨f', t', g1, g2, by omega, g4, g5, g6, fun j hj => ?_⟩
    cases j with
    | zero => exact ⟨t, h2, g3⟩
    | succ j =>
      obtain ⟨u, k1, k2⟩ := g7 j (by omega)
      exact ⟨u, k1, k2⟩
end Go.Proofs.YteejjkfmmhegmaaGreatDoor
