/- Plain: what stands between tokens, of a text that stands behind another. | Plain: what stands between tokens, over the pads of LexBlanks. | Plain: what stands between tokens, over each of the five pads of LexBlanks. | Plain: a token of a text that stands behind a pad. -/
import Derived.Test.YtdkkfbakggbaeaaDoorOn
namespace Go.Proofs.YtdkkfbakggbaeaaDoor
open Go.RowKit

/-- the same, so many bytes on; e: a line's end stood ahead. -/
def BtSh (k : Nat) (e : Bool) : BtO → BtO → Prop
  | .fine q l cs, .fine q' l' cs' => q' = k + q ∧ l' = (l || e) ∧ cs'.length = cs.length
  | .bad place code, .bad place' code' => place' = (k : Int) + place ∧ code' = code
  | _, _ => False
theorem cmKind_shift {k p : Nat} {l : List UInt8} (hk : 0 < k) (h : p = 0 → Lib.hasPrefix l [35, 33] = false) : cmKind (k + p) l = cmKind p l := by
  unfold cmKind
  by_cases h1 : Lib.hasPrefix l [47, 47] = true
  · rw [if_pos h1, if_pos h1]
  · rw [if_neg h1, if_neg h1]
    by_cases h2 : Lib.hasPrefix l [47, 42] = true
    · rw [if_pos h2, if_pos h2]
    · rw [if_neg h2, if_neg h2, if_neg (by omega), if_neg]
      rintro ⟨h3, h4⟩
      rw [h h3] at h4
      cases h4
theorem btwF_shift (s S : ByteArray) (k : Nat) (hk : 0 < k) (hS : ∀ p, S.data.toList.drop (k + p) = s.data.toList.drop p) (hno : Lib.hasPrefix s.data.toList [35, 33] = false) (e : Bool) :
    ∀ (f p : Nat) (line line' : Bool), p ≤ s.size → s.size - p < f → line' = (line || e) → BtSh k e (btwF s f p line) (btwF S f (k + p) line')
  | 0, _, _, _, _, h, _ => by omega
  | f + 1, p, line, line', hp, hf, hl => by
    rw [btwF, btwF, hS p]
    have hck : cmKind (k + p) (s.data.toList.drop p) = cmKind p (s.data.toList.drop p) := cmKind_shift hk (fun h => by rw [h, List.drop_zero]; exact hno)
    cases hg : isGap (s.data.toList.drop p) with
    | true =>
      rw [if_pos rfl, if_pos rfl]
      obtain ⟨n, h3, h4, h5, h6⟩ := isGap_pos hg
      rw [List.length_drop, ofl] at h5
      rw [h3, Int.toNat_natCast, Nat.add_assoc]
      exact btwF_shift s S k hk hS hno e f (p + n) _ _ (by omega) (by omega) (by rw [hl]; cases line <;> cases e <;> cases endsR (nx (s.data.toList.drop p)).1 <;> rfl)
    | false =>
      rw [if_neg (show ¬ (false = true) by decide), if_neg (show ¬ (false = true) by decide), hck]
      by_cases hk0 : cmKind p (s.data.toList.drop p) = 0
      · rw [if_pos hk0, if_pos hk0]
        exact ⟨rfl, hl, rfl⟩
      · rw [if_neg hk0, if_neg hk0]
        have hl2 := cmKind_len hk0
        rw [List.length_drop, ofl] at hl2
        rw [Nat.add_assoc k p 2, hS (p + 2)]
        cases hc : cmt (decide (cmKind p (s.data.toList.drop p) = 2)) (s.data.toList.drop (p + 2)) with
        | fine n ln =>
          have h1 := cmt_le hc
          rw [List.length_drop, ofl] at h1
          have h2 := btwF_shift s S k hk hS hno e f (p + 2 + n) (line || ln) (line' || ln) (by omega) (by omega) (by rw [hl]; cases line <;> cases e <;> cases ln <;> rfl)
          simp only
          rw [show k + (p + 2) + n = k + (p + 2 + n) by omega]
          cases ha : btwF s f (p + 2 + n) (line || ln) with
          | fine q l cs =>
            rw [ha] at h2
            cases hb : btwF S f (k + (p + 2 + n)) (line' || ln) with
            | fine q' l' cs' =>
              rw [hb] at h2
              obtain ⟨h3, h4, h5⟩ := h2
              exact ⟨h3, h4, by simp only [List.length_append, List.length_cons, h5]⟩
            | bad a c => rw [hb] at h2; exact h2.elim
          | bad a c =>
            rw [ha] at h2
            cases hb : btwF S f (k + (p + 2 + n)) (line' || ln) with
            | fine q' l' cs' => rw [hb] at h2; exact h2.elim
            | bad a' c' => rw [hb] at h2; exact h2
        | bad off code =>
          refine ⟨?_, rfl⟩
          unfold badPlace
          split <;> omega
end Go.Proofs.YtdkkfbakggbaeaaDoor
namespace Go.Proofs.YtdkkfbakggbaeaaDoor
open Go.RowKit

theorem btw_gap {S : ByteArray} {p : Nat} {c : UInt8} {rest : List UInt8} (line : Bool) (h : S.data.toList.drop p = c :: rest) (hc : c.toNat < 128) (hg : (endsR ((c.toNat : Nat) : Int) || blankR ((c.toNat : Nat) : Int)) = true) :
    btw S p line = btw S (p + 1) (line || endsR ((c.toNat : Nat) : Int)) := by
  have hp : p ≤ S.size := by
    by_cases hp : p ≤ S.size
    · exact hp
    · rw [List.drop_of_length_le (by rw [ofl]; omega)] at h
      cases h
  have hgap : isGap (c :: rest) = true := by
    unfold isGap
    rw [nx_ascii c rest hc]
    simp only
    rw [hg]
    rfl
  rw [btw_step S p line hp, h, if_pos hgap, nx_ascii c rest hc]
  rfl
theorem btw_cm {S : ByteArray} {p n : Nat} {ln : Bool} (line : Bool) (hp : p ≤ S.size) (hg : isGap (S.data.toList.drop p) = false) (hk : cmKind p (S.data.toList.drop p) ≠ 0)
    (hc : cmt (decide (cmKind p (S.data.toList.drop p) = 2)) (S.data.toList.drop (p + 2)) = .fine n ln) :
    btw S p line = (btw S (p + 2 + n) (line || ln)).pre [⟨cmKind p (S.data.toList.drop p), S.extract p (p + 2 + n), p, ((p + 2 + n : Nat) : Int)⟩] := by
  rw [btw_step S p line hp, hg, if_neg (by decide), if_neg hk, hc]
theorem cmt_x (r : List UInt8) : cmt true (120 :: 42 :: 47 :: r) = .fine 3 false := by
  rw [cmt_step, if_neg (by rintro ⟨_, h⟩; rw [pre_head (by decide)] at h; cases h), nx_ascii 120 _ (by decide), if_neg (by decide), if_neg (by decide), if_neg (by rintro ⟨h, _⟩; cases h)]
  show (cmt true (42 :: 47 :: r)).shift 1 (endsR 120) = _
  rw [cmt_step, if_pos ⟨rfl, rfl⟩]
  rfl
theorem cmt_n (r : List UInt8) : cmt true (10 :: 42 :: 47 :: r) = .fine 3 true := by
  rw [cmt_step, if_neg (by rintro ⟨_, h⟩; rw [pre_head (by decide)] at h; cases h), nx_ascii 10 _ (by decide), if_neg (by decide), if_neg (by decide), if_neg (by rintro ⟨h, _⟩; cases h)]
  show (cmt true (42 :: 47 :: r)).shift 1 (endsR 10) = _
  rw [cmt_step, if_pos ⟨rfl, rfl⟩]
  rfl
theorem cmt_y (r : List UInt8) : cmt false (121 :: 10 :: r) = .fine 1 false := by
  rw [cmt_step, if_neg (by rintro ⟨h, _⟩; cases h), nx_ascii 121 _ (by decide), if_neg (by decide), if_neg (by decide), if_neg (by rintro ⟨_, h⟩; exact absurd (show endsR 121 = true from h) (by decide))]
  show (cmt false (10 :: r)).shift 1 (endsR 121) = _
  rw [cmt_step, if_neg (by rintro ⟨h, _⟩; cases h), nx_ascii 10 _ (by decide), if_neg (by decide), if_neg (by decide), if_pos ⟨rfl, by decide⟩]
  rfl
end Go.Proofs.YtdkkfbakggbaeaaDoor
namespace Go.Proofs.YtdkkfbakggbaeaaDoor
open Go.RowKit

theorem pad0 {S : ByteArray} {r : List UInt8} (h : S.data.toList = 97 :: 32 :: r) : btw S 1 false = btw S 2 false := by
  rw [btw_gap (c := 32) (rest := r) false (by rw [h]; rfl) (by decide) (by decide +kernel)]
  rfl
theorem pad1 {S : ByteArray} {r : List UInt8} (h : S.data.toList = 97 :: 9 :: 10 :: r) : btw S 1 false = btw S 3 true := by
  rw [btw_gap (c := 9) (rest := 10 :: r) false (by rw [h]; rfl) (by decide) (by decide +kernel)]
  rw [btw_gap (p := 1 + 1) (c := 10) (rest := r) _ (by rw [h]; rfl) (by decide) (by decide +kernel)]
  rfl
theorem pad2 {S : ByteArray} {r : List UInt8} (h : S.data.toList = 97 :: 47 :: 42 :: 120 :: 42 :: 47 :: r) : ∃ c : Cm, c.from' = 1 ∧ btw S 1 false = (btw S 6 false).pre [c] := by
  have hd : S.data.toList.drop 1 = 47 :: 42 :: 120 :: 42 :: 47 :: r := by rw [h]; rfl
  have hd2 : S.data.toList.drop (1 + 2) = 120 :: 42 :: 47 :: r := by rw [h]; rfl
  have hsz : S.size = r.length + 6 := by rw [← ofl, h]; simp
  have hk : cmKind 1 (S.data.toList.drop 1) = 2 := by rw [hd]; rfl
  refine ⟨_, rfl, btw_cm (n := 3) (ln := false) false (by omega) (by rw [hd]; exact low_gap 47 _ (by decide) (by decide)) (by rw [hk]; decide) ?_⟩
  rw [hk, hd2]
  exact cmt_x r
theorem pad3 {S : ByteArray} {r : List UInt8} (h : S.data.toList = 97 :: 47 :: 47 :: 121 :: 10 :: r) : ∃ c : Cm, c.from' = 1 ∧ btw S 1 false = (btw S 5 true).pre [c] := by
  have hd : S.data.toList.drop 1 = 47 :: 47 :: 121 :: 10 :: r := by rw [h]; rfl
  have hd2 : S.data.toList.drop (1 + 2) = 121 :: 10 :: r := by rw [h]; rfl
  have hsz : S.size = r.length + 5 := by rw [← ofl, h]; simp
  have hk : cmKind 1 (S.data.toList.drop 1) = 1 := by rw [hd]; rfl
  refine ⟨⟨cmKind 1 (S.data.toList.drop 1), S.extract 1 (1 + 2 + 1), 1, ((1 + 2 + 1 : Nat) : Int)⟩, rfl, ?_⟩
  rw [btw_cm (n := 1) (ln := false) false (by omega) (by rw [hd]; exact low_gap 47 _ (by decide) (by decide)) (by rw [hk]; decide) (by rw [hk, hd2]; exact cmt_y r)]
  rw [btw_gap (p := 1 + 2 + 1) (c := 10) (rest := r) _ (by rw [h]; rfl) (by decide) (by decide +kernel)]
  rfl
theorem pad4 {S : ByteArray} {r : List UInt8} (h : S.data.toList = 97 :: 13 :: 10 :: 32 :: 47 :: 42 :: 10 :: 42 :: 47 :: 32 :: r) : ∃ c : Cm, c.from' = 4 ∧ btw S 1 false = (btw S 10 true).pre [c] := by
  have hd : S.data.toList.drop (1 + 1 + 1 + 1) = 47 :: 42 :: 10 :: 42 :: 47 :: 32 :: r := by rw [h]; rfl
  have hd2 : S.data.toList.drop (1 + 1 + 1 + 1 + 2) = 10 :: 42 :: 47 :: 32 :: r := by rw [h]; rfl
  have hsz : S.size = r.length + 10 := by rw [← ofl, h]; simp
  have hk : cmKind (1 + 1 + 1 + 1) (S.data.toList.drop (1 + 1 + 1 + 1)) = 2 := by rw [hd]; rfl
  refine ⟨⟨cmKind (1 + 1 + 1 + 1) (S.data.toList.drop (1 + 1 + 1 + 1)), S.extract (1 + 1 + 1 + 1) (1 + 1 + 1 + 1 + 2 + 3), 1 + 1 + 1 + 1, ((1 + 1 + 1 + 1 + 2 + 3 : Nat) : Int)⟩, rfl, ?_⟩
  rw [btw_gap (c := 13) (rest := 10 :: 32 :: 47 :: 42 :: 10 :: 42 :: 47 :: 32 :: r) false (by rw [h]; rfl) (by decide) (by decide +kernel)]
  rw [btw_gap (p := 1 + 1) (c := 10) (rest := 32 :: 47 :: 42 :: 10 :: 42 :: 47 :: 32 :: r) _ (by rw [h]; rfl) (by decide) (by decide +kernel)]
  rw [btw_gap (p := 1 + 1 + 1) (c := 32) (rest := 47 :: 42 :: 10 :: 42 :: 47 :: 32 :: r) _ (by rw [h]; rfl) (by decide) (by decide +kernel)]
  rw [btw_cm (p := 1 + 1 + 1 + 1) (n := 3) (ln := true) _ (by omega) (by rw [hd]; exact low_gap 47 _ (by decide) (by decide)) (by rw [hk]; decide) (by rw [hk, hd2]; exact cmt_n (32 :: r))]
  rw [btw_gap (p := 1 + 1 + 1 + 1 + 2 + 3) (c := 32) (rest := r) _ (by rw [h]; rfl) (by decide) (by decide +kernel)]
  rfl
end Go.Proofs.YtdkkfbakggbaeaaDoor
namespace Go.Proofs.YtdkkfbakggbaeaaDoor
open Go.RowKit

/-- the same answer, so many bytes on, behind so many comments more. -/
def NxSh (k : Nat) (lines : Bool) (own : Nat) : NxO → NxO → Prop
  | .fine kind q n line cs, .fine kind' q' n' line' cs' => kind' = kind ∧ q' = k + q ∧ n' = n ∧ line' = (line || lines) ∧ cs'.length = cs.length + own ∧ (own = 1 → ∃ c ds, cs' = c :: ds ∧ 1 ≤ c.from')
  | .bad place code, .bad place' code' => place' = (k : Int) + place ∧ code' = code
  | _, _ => False
theorem btw_shift {s S : ByteArray} {k : Nat} (hk : 0 < k) (hS : ∀ p, S.data.toList.drop (k + p) = s.data.toList.drop p) (hno : Lib.hasPrefix s.data.toList [35, 33] = false) (e : Bool) :
    BtSh k e (btw s 0 false) (btw S k e) := by
  have hsz : S.size - k = s.size := by
    have := congrArg List.length (hS 0)
    rw [List.length_drop, List.length_drop, ofl, ofl] at this
    omega
  have h := btwF_shift s S k hk hS hno e (s.size - 0 + 1) 0 false e (Nat.zero_le _) (by omega) (by cases e <;> rfl)
  unfold btw
  rw [hsz]
  exact h
theorem nxt_shift {s S : ByteArray} {k : Nat} {goal : Int} {lines : Bool} {own : Nat} {c0 : List Cm} (hg : goal = 1 ∨ goal = 2 ∨ goal = 5) (hk : 0 < k) (hS : ∀ p, S.data.toList.drop (k + p) = s.data.toList.drop p) (hno : Lib.hasPrefix s.data.toList [35, 33] = false)
    (hb : btw S 1 false = (btw S k lines).pre c0) (hc : c0.length = own) (hc1 : ∀ c ∈ c0, 1 ≤ c.from') : NxSh k lines own (nxt s 0 goal) (nxt S 1 goal) := by
  have h := btw_shift hk hS hno lines
  rw [nxt_ok (by omega), nxt_ok (by omega), if_neg (by omega), if_neg (by omega), hb]
  cases ha : btw s 0 false with
  | bad place code =>
    rw [ha] at h
    cases hc2 : btw S k lines with
    | fine _ _ _ => rw [hc2] at h; exact h.elim
    | bad place' code' => rw [hc2] at h; exact h
  | fine q l cs =>
    rw [ha] at h
    cases hc2 : btw S k lines with
    | bad _ _ => rw [hc2] at h; exact h.elim
    | fine q' l' cs' =>
      rw [hc2] at h
      obtain ⟨rfl, h2, h3⟩ := h
      simp only [BtO.pre, hS]
      cases ht : tokT goal (s.data.toList.drop q) with
      | bad off code => exact ⟨by omega, rfl⟩
      | fine kind n =>
        refine ⟨rfl, rfl, rfl, h2, by simp only [List.length_append]; omega, fun ho => ?_⟩
        cases c0 with
        | nil => simp at hc; omega
        | cons c d0 => exact ⟨c, d0 ++ cs', rfl, hc1 c (.head _)⟩
theorem drop_pad {S s : ByteArray} {P : List UInt8} (h : S.data.toList = P ++ s.data.toList) {k : Nat} (hk : P.length = k) (p : Nat) : S.data.toList.drop (k + p) = s.data.toList.drop p := by
  rw [h, ← hk, List.drop_length_add_append]
theorem blank0 {s S : ByteArray} {goal : Int} (hg : goal = 1 ∨ goal = 2 ∨ goal = 5) (hS : S.data.toList = 97 :: 32 :: s.data.toList) (hno : Lib.hasPrefix s.data.toList [35, 33] = false) : NxSh 2 false 0 (nxt s 0 goal) (nxt S 1 goal) :=
  nxt_shift (c0 := []) hg (by decide) (drop_pad (P := [97, 32]) hS rfl) hno (by rw [pad0 hS]; cases btw S 2 false <;> rfl) rfl (fun _ h => by cases h)
theorem blank1 {s S : ByteArray} {goal : Int} (hg : goal = 1 ∨ goal = 2 ∨ goal = 5) (hS : S.data.toList = 97 :: 9 :: 10 :: s.data.toList) (hno : Lib.hasPrefix s.data.toList [35, 33] = false) : NxSh 3 true 0 (nxt s 0 goal) (nxt S 1 goal) :=
  nxt_shift (c0 := []) hg (by decide) (drop_pad (P := [97, 9, 10]) hS rfl) hno (by rw [pad1 hS]; cases btw S 3 true <;> rfl) rfl (fun _ h => by cases h)
theorem one_mem {c : Cm} {f : Int} (h : c.from' = f) (h1 : 1 ≤ f) : ∀ d ∈ [c], 1 ≤ d.from' := fun d hd => by
  rw [List.mem_singleton.1 hd, h]; exact h1
theorem blank2 {s S : ByteArray} {goal : Int} (hg : goal = 1 ∨ goal = 2 ∨ goal = 5) (hS : S.data.toList = 97 :: 47 :: 42 :: 120 :: 42 :: 47 :: s.data.toList) (hno : Lib.hasPrefix s.data.toList [35, 33] = false) : NxSh 6 false 1 (nxt s 0 goal) (nxt S 1 goal) := by
  obtain ⟨c, hc, hb⟩ := pad2 hS
  exact nxt_shift (c0 := [c]) hg (by decide) (drop_pad (P := [97, 47, 42, 120, 42, 47]) hS rfl) hno hb rfl (one_mem hc (by decide))
theorem blank3 {s S : ByteArray} {goal : Int} (hg : goal = 1 ∨ goal = 2 ∨ goal = 5) (hS : S.data.toList = 97 :: 47 :: 47 :: 121 :: 10 :: s.data.toList) (hno : Lib.hasPrefix s.data.toList [35, 33] = false) : NxSh 5 true 1 (nxt s 0 goal) (nxt S 1 goal) := by
  obtain ⟨c, hc, hb⟩ := pad3 hS
  exact nxt_shift (c0 := [c]) hg (by decide) (drop_pad (P := [97, 47, 47, 121, 10]) hS rfl) hno hb rfl (one_mem hc (by decide))
theorem blank4 {s S : ByteArray} {goal : Int} (hg : goal = 1 ∨ goal = 2 ∨ goal = 5) (hS : S.data.toList = 97 :: 13 :: 10 :: 32 :: 47 :: 42 :: 10 :: 42 :: 47 :: 32 :: s.data.toList) (hno : Lib.hasPrefix s.data.toList [35, 33] = false) : NxSh 10 true 1 (nxt s 0 goal) (nxt S 1 goal) := by
  obtain ⟨c, hc, hb⟩ := pad4 hS
  exact nxt_shift (c0 := [c]) hg (by decide) (drop_pad (P := [97, 13, 10, 32, 47, 42, 10, 42, 47, 32]) hS rfl) hno hb rfl (one_mem hc (by decide))
theorem extract_shift {s S : ByteArray} {P : List UInt8} (h : S.data.toList = P ++ s.data.toList) {k : Nat} (hk : P.length = k) (q n : Nat) : S.extract (k + q) (k + q + n) = s.extract q (q + n) := by
  apply ByteArray.ext
  apply Array.toList_inj.1
  rw [Lib.extract_data, Lib.extract_data, drop_pad h hk, show k + q + n - (k + q) = q + n - q by omega]
end Go.Proofs.YtdkkfbakggbaeaaDoor
