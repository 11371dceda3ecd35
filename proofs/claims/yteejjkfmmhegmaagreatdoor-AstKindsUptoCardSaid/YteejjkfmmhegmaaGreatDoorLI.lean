/- Plain: what stands between tokens. No program in sight. -/
import Derived.Test.YteejjkfmmhegmaaGreatDoorLH
namespace Go.Proofs.YteejjkfmmhegmaaGreatDoor
open Go.RowKit

/-- which comment begins there; 0: none. -/
def cmKind (p : Nat) (l : List UInt8) : Nat := if Lib.hasPrefix l [47, 47] = true then 1 else if Lib.hasPrefix l [47, 42] = true then 2 else if p = 0 ∧ Lib.hasPrefix l [35, 33] = true then 3 else 0
def isGap (l : List UInt8) : Bool := decide (0 < (nx l).2) && (endsR (nx l).1 || blankR (nx l).1)
inductive BtO where
  | fine (p : Nat) (line : Bool) (cs : List Cm)
  | bad (place : Int) (code : Int)
def BtO.pre (cs : List Cm) : BtO → BtO
  | .fine p line ds => .fine p line (cs ++ ds)
  | .bad a c => .bad a c
def badPlace (p off : Nat) (code : Int) : Int := if code = 507 then (p : Int) else ((p + 2 + off : Nat) : Int)
def btwF (s : ByteArray) : Nat → Nat → Bool → BtO
  | 0, _, _ => .bad 0 0
  | f + 1, p, line =>
    if isGap (s.data.toList.drop p) = true then btwF s f (p + (nx (s.data.toList.drop p)).2.toNat) (line || endsR (nx (s.data.toList.drop p)).1)
    else if cmKind p (s.data.toList.drop p) = 0 then .fine p line []
    else match cmt (decide (cmKind p (s.data.toList.drop p) = 2)) (s.data.toList.drop (p + 2)) with
      | .fine n ln => (btwF s f (p + 2 + n) (line || ln)).pre [⟨cmKind p (s.data.toList.drop p), s.extract p (p + 2 + n), p, ((p + 2 + n : Nat) : Int)⟩]
      | .bad off code => .bad (badPlace p off code) code
theorem pre_pre (a c : List Cm) (o : BtO) : (o.pre a).pre c = o.pre (c ++ a) := by
  cases o with
  | fine p line ds => simp [BtO.pre]
  | bad a c => rfl
theorem pre_nil (o : BtO) : o.pre [] = o := by cases o <;> rfl
theorem isGap_pos {l : List UInt8} (h : isGap l = true) : ∃ n : Nat, (nx l).2 = n ∧ 0 < n ∧ n ≤ l.length ∧ n ≤ 4 := by
  unfold isGap at h
  simp only [Bool.and_eq_true, decide_eq_true_eq] at h
  obtain ⟨n, h1, h2, h3, _⟩ := nx_pos (l := l) (by omega)
  exact ⟨n, h1, by omega, h2, h3⟩
theorem cmKind_len {p : Nat} {l : List UInt8} (h : cmKind p l ≠ 0) : 2 ≤ l.length := by
  unfold cmKind at h
  split at h
  · rename_i h1; exact prefix_len h1
  · split at h
    · rename_i h1; exact prefix_len h1
    · split at h
      · rename_i h1; exact prefix_len h1.2
      · exact absurd rfl h
theorem cmtF_le (blk : Bool) : ∀ (f : Nat) (l : List UInt8) (n : Nat) (ln : Bool), cmtF blk f l = .fine n ln → n ≤ l.length
  | 0, _, _, _, h => by cases h
  | f + 1, l, n, ln, h => by
    rw [cmtF] at h
    split at h
    · rename_i h1
      cases h
      exact prefix_len h1.2
    · split at h
      · split at h
        · cases h
        · cases h; exact Nat.zero_le _
      · split at h
        · cases h
        · split at h
          · cases h; exact Nat.zero_le _
          · rename_i h0 hn _
            obtain ⟨m, h3, h4, h5, h6⟩ := nx_pos (l := l) (by omega)
            cases hc : cmtF blk f (l.drop (nx l).2.toNat) with
            | fine a c =>
              rw [hc] at h
              cases h
              have := cmtF_le blk f _ _ _ hc
              rw [List.length_drop] at this
              omega
            | bad a c => rw [hc] at h; cases h
theorem cmt_le {blk : Bool} {l : List UInt8} {n : Nat} {ln : Bool} (h : cmt blk l = .fine n ln) : n ≤ l.length := cmtF_le blk _ _ _ _ h
theorem btwF_fuel (s : ByteArray) : ∀ (f g p : Nat) (line : Bool), s.size - p < f → s.size - p < g → btwF s f p line = btwF s g p line
  | 0, _, _, _, h, _ => by omega
  | _ + 1, 0, _, _, _, h => by omega
  | f + 1, g + 1, p, line, h1, h2 => by
    rw [btwF, btwF]
    cases hg : isGap (s.data.toList.drop p) with
    | true =>
      obtain ⟨n, h3, h4, h5, h6⟩ := isGap_pos hg
      rw [List.length_drop, ofl] at h5
      rw [if_pos rfl, if_pos rfl, btwF_fuel s f g _ _ (by omega) (by omega)]
    | false =>
      rw [if_neg (show ¬ (false = true) by decide), if_neg (show ¬ (false = true) by decide)]
      by_cases hk : cmKind p (s.data.toList.drop p) = 0
      · rw [if_pos hk, if_pos hk]
      · rw [if_neg hk, if_neg hk]
        have hl := cmKind_len hk
        rw [List.length_drop, ofl] at hl
        cases hc : cmt (decide (cmKind p (s.data.toList.drop p) = 2)) (s.data.toList.drop (p + 2)) with
        | fine n ln =>
          simp only
          rw [btwF_fuel s f g (p + 2 + n) _ (by omega) (by omega)]
        | bad off code => rfl
def btw (s : ByteArray) (p : Nat) (line : Bool) : BtO := btwF s (s.size - p + 1) p line
theorem btw_step (s : ByteArray) (p : Nat) (line : Bool) (hp : p ≤ s.size) : btw s p line =
    if isGap (s.data.toList.drop p) = true then btw s (p + (nx (s.data.toList.drop p)).2.toNat) (line || endsR (nx (s.data.toList.drop p)).1)
    else if cmKind p (s.data.toList.drop p) = 0 then .fine p line []
    else match cmt (decide (cmKind p (s.data.toList.drop p) = 2)) (s.data.toList.drop (p + 2)) with
      | .fine n ln => (btw s (p + 2 + n) (line || ln)).pre [⟨cmKind p (s.data.toList.drop p), s.extract p (p + 2 + n), p, ((p + 2 + n : Nat) : Int)⟩]
      | .bad off code => .bad (badPlace p off code) code := by
  unfold btw
  rw [btwF]
  cases hg : isGap (s.data.toList.drop p) with
  | true =>
    obtain ⟨n, h3, h4, h5, h6⟩ := isGap_pos hg
    rw [List.length_drop, ofl] at h5
    rw [if_pos rfl, if_pos rfl]
    exact btwF_fuel s _ _ _ _ (by omega) (by omega)
  | false =>
    rw [if_neg (show ¬ (false = true) by decide), if_neg (show ¬ (false = true) by decide)]
    by_cases hk : cmKind p (s.data.toList.drop p) = 0
    · rw [if_pos hk, if_pos hk]
    · rw [if_neg hk, if_neg hk]
      have hl := cmKind_len hk
      rw [List.length_drop, ofl] at hl
      cases hc : cmt (decide (cmKind p (s.data.toList.drop p) = 2)) (s.data.toList.drop (p + 2)) with
      | fine n ln =>
        simp only
        rw [btwF_fuel s (s.size - p) (s.size - (p + 2 + n) + 1) (p + 2 + n) _ (by omega) (by omega)]
      | bad off code => rfl
end Go.Proofs.YteejjkfmmhegmaaGreatDoor
