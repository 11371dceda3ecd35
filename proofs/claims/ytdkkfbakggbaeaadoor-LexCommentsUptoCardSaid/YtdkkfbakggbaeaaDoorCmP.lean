/- Plain: comments are told in their row, each as it is written. -/
import Derived.Test.YtdkkfbakggbaeaaDoorEq
namespace Go.Proofs.YtdkkfbakggbaeaaDoor
open Go.RowKit

/-- a number below 100 in digits. -/
def dc2 (y : Nat) : List UInt8 := if y = 0 then [] else if y < 10 then [UInt8.ofNat (48 + y)] else [UInt8.ofNat (48 + y / 10), UInt8.ofNat (48 + y % 10)]
def dcl (i : Nat) : List UInt8 := if i = 0 then [48] else dc2 i
theorem dcl_digits : ∀ i : Fin 20, (dcl i.val).length ≤ 2 ∧ ∀ c ∈ dcl i.val, 48 ≤ c.toNat ∧ c.toNat ≤ 57 := by decide +kernel
def cItem (i : Nat) : Nat → List UInt8
  | 0 => [32]
  | 1 => [47, 47] ++ dcl i ++ [32, 10]
  | 2 => [47, 42] ++ dcl i ++ [42, 42, 47]
  | _ => [47, 42, 10, 47, 42, 47]
def cOne (i : Nat) : Nat → List (Int × List UInt8)
  | 0 => []
  | 1 => [(1, [47, 47] ++ dcl i ++ [32])]
  | 2 => [(2, [47, 42] ++ dcl i ++ [42, 42, 47])]
  | _ => [(2, [47, 42, 10, 47, 42, 47])]
def cLn : Nat → Bool
  | 0 => false
  | 1 => true
  | 2 => false
  | _ => true
def cText : Nat → List Nat → List UInt8
  | _, [] => []
  | i, j :: js => cItem i j ++ cText (i + 1) js
def cRow : Nat → List Nat → List (Int × List UInt8)
  | _, [] => []
  | i, j :: js => cOne i j ++ cRow (i + 1) js
def cLine : List Nat → Bool
  | [] => false
  | j :: js => cLn j || cLine js
theorem cText_snoc : ∀ (js : List Nat) (i j : Nat), cText i (js ++ [j]) = cText i js ++ cItem (i + js.length) j
  | [], i, j => by simp [cText]
  | a :: js, i, j => by
    rw [List.cons_append, cText, cText, cText_snoc js (i + 1) j, List.append_assoc, List.length_cons, show i + 1 + js.length = i + (js.length + 1) by omega]
theorem cRow_snoc : ∀ (js : List Nat) (i j : Nat), cRow i (js ++ [j]) = cRow i js ++ cOne (i + js.length) j
  | [], i, j => by simp [cRow]
  | a :: js, i, j => by
    rw [List.cons_append, cRow, cRow, cRow_snoc js (i + 1) j, List.append_assoc, List.length_cons, show i + 1 + js.length = i + (js.length + 1) by omega]
theorem cLine_snoc : ∀ (js : List Nat) (j : Nat), cLine (js ++ [j]) = (cLine js || cLn j)
  | [], j => by simp [cLine]
  | a :: js, j => by rw [List.cons_append, cLine, cLine, cLine_snoc js j, Bool.or_assoc]
theorem cOne_len (i j : Nat) : (cOne i j).length ≤ 1 := by
  match j with
  | 0 => exact Nat.zero_le _
  | 1 => exact Nat.le_refl _
  | 2 => exact Nat.le_refl _
  | _ + 3 => exact Nat.le_refl _
theorem cRow_len : ∀ (js : List Nat) (i : Nat), (cRow i js).length ≤ js.length
  | [], _ => Nat.le_refl _
  | j :: js, i => by
    rw [cRow, List.length_append, List.length_cons]
    have := cRow_len js (i + 1)
    have := cOne_len i j
    omega
/-- a character in a comment. -/
theorem cmt_low {blk : Bool} {c : UInt8} {r : List UInt8} (hc : c.toNat < 128) (h1 : blk = true → Lib.hasPrefix (c :: r) [42, 47] = false) (h2 : blk = false → endsR ((c.toNat : Nat) : Int) = false) : cmt blk (c :: r) = (cmt blk r).shift 1 (endsR ((c.toNat : Nat) : Int)) := by
  rw [cmt_step, if_neg, nx_ascii c r hc, if_neg (show ¬ ((1 : Int) = 0) by decide), if_neg (show ¬ ((1 : Int) < 0) by decide), if_neg]
  · rfl
  · rintro ⟨h, h3⟩
    rw [h2 h] at h3
    cases h3
  · rintro ⟨h, h3⟩
    rw [h1 h] at h3
    cases h3
theorem dig_ends : ∀ c : Fin 256, 48 ≤ c.val → c.val ≤ 57 → endsR ((c.val : Nat) : Int) = false := by decide +kernel
theorem cmt_shift_fine {n k : Nat} {a b : Bool} : (CmO.fine n a).shift k b = .fine (k + n) (b || a) := rfl
theorem cmt_digits (blk : Bool) (r : List UInt8) (n : Nat) (ln : Bool) (h : cmt blk r = .fine n ln) : ∀ l : List UInt8, (∀ c ∈ l, 48 ≤ c.toNat ∧ c.toNat ≤ 57) → cmt blk (l ++ r) = .fine (l.length + n) ln
  | [], _ => by rw [List.nil_append, h, List.length_nil, Nat.zero_add]
  | c :: l, hl => by
    obtain ⟨h1, h2⟩ := hl c (.head _)
    have he : endsR ((c.toNat : Nat) : Int) = false := dig_ends ⟨c.toNat, c.toNat_lt⟩ h1 h2
    rw [List.cons_append, cmt_low (by omega) (fun _ => pre_head (by rintro rfl; exact absurd h1 (by decide))) (fun _ => he), cmt_digits blk r n ln h l (fun d hd => hl d (.tail _ hd)), he, cmt_shift_fine, List.length_cons]
    congr 1
    omega
theorem cmt_end1 (r : List UInt8) : cmt false (32 :: 10 :: r) = .fine 1 false := by
  rw [cmt_low (by decide) (fun h => by cases h) (fun _ => by decide +kernel), cmt_step, if_neg (by rintro ⟨h, _⟩; cases h), nx_ascii 10 _ (by decide), if_neg (by decide), if_neg (by decide), if_pos ⟨rfl, by decide +kernel⟩]
  rfl
theorem cmt_end2 (r : List UInt8) : cmt true (42 :: 42 :: 47 :: r) = .fine 3 false := by
  rw [cmt_low (by decide) (fun _ => rfl) (fun h => by cases h), cmt_step, if_pos ⟨rfl, rfl⟩]
  rfl
theorem cmt_end3 (r : List UInt8) : cmt true (10 :: 47 :: 42 :: 47 :: r) = .fine 4 true := by
  rw [cmt_low (by decide) (fun _ => pre_head (by decide)) (fun h => by cases h), cmt_low (by decide) (fun _ => pre_head (by decide)) (fun h => by cases h), cmt_step, if_pos ⟨rfl, rfl⟩]
  rfl
/-- what a row of comments tells. -/
def tells (cs : List Cm) : List (Int × List UInt8) := cs.map fun c => (c.kind, c.text.data.toList)
theorem ext_take (S : ByteArray) (p n : Nat) : (S.extract p (p + n)).data.toList = (S.data.toList.drop p).take n := by
  rw [Lib.extract_data, show p + n - p = n by omega]
theorem pre_fine {x : BtO} {q : Nat} {l : Bool} {cs : List Cm} {pr : List Cm} (h : x = .fine q l cs) : x.pre pr = .fine q l (pr ++ cs) := by rw [h]; rfl
theorem size_drop {S : ByteArray} {p : Nat} {l : List UInt8} (h : S.data.toList.drop p = l) (hl : l ≠ []) : p + l.length = S.size := by
  have h1 := congrArg List.length h
  rw [List.length_drop, ofl] at h1
  have := List.length_pos_iff.2 hl
  omega
theorem drop_more {S : ByteArray} {p : Nat} {a b : List UInt8} (h : S.data.toList.drop p = a ++ b) {k : Nat} (hk : a.length = k) : S.data.toList.drop (p + k) = b := by
  rw [← List.drop_drop, h, ← hk, List.drop_left]
set_option maxHeartbeats 2000000 in
/-- what stands between tokens. -/
theorem btw_cm_items {S : ByteArray} : ∀ (js : List Nat) (i p : Nat) (line : Bool), i + js.length ≤ 20 → S.data.toList.drop p = cText i js ++ [59] →
    ∃ cs, btw S p line = .fine (p + (cText i js).length) (line || cLine js) cs ∧ tells cs = cRow i js
  | [], i, p, line, _, h => by
    rw [cText, List.nil_append] at h
    have hsz := size_drop h (by simp)
    refine ⟨[], ?_, rfl⟩
    rw [cText, cLine, List.length_nil, Nat.add_zero, Bool.or_false]
    simp at hsz
    refine btw_stay (by omega) line (by rw [h]; exact low_gap 59 _ (by decide) (by decide)) ?_
    rw [h]
    unfold cmKind
    rw [pre_head (by decide), pre_head (by decide), pre_head (by decide)]
    simp
  | j :: js, i, p, line, hi, h => by
    rw [List.length_cons] at hi
    rw [cText, List.append_assoc] at h
    obtain ⟨hd1, hd2⟩ := dcl_digits ⟨i, by omega⟩
    simp only at hd1 hd2
    have hsz := size_drop h (by simp)
    rw [List.length_append] at hsz
    have hlen : (cText i (j :: js)).length = (cItem i j).length + (cText (i + 1) js).length := by rw [cText, List.length_append]
    have hrest : S.data.toList.drop (p + (cItem i j).length) = cText (i + 1) js ++ [59] := drop_more h rfl
    obtain ⟨cs, ih1, ih2⟩ := btw_cm_items js (i + 1) (p + (cItem i j).length) (line || cLn j) (by omega) hrest
    rw [hlen, cLine, ← Bool.or_assoc, cRow]
    match j with
    | 0 =>
      refine ⟨cs, ?_, ih2⟩
      rw [btw_gap (c := 32) (rest := cText (i + 1) js ++ [59]) line h (by decide) (by decide +kernel)]
      rw [← Nat.add_assoc]
      exact ih1
    | 1 =>
      have hl : (cItem i 1).length = 2 + ((dcl i).length + 1) + 1 := by simp [cItem]; omega
      have h2 : S.data.toList.drop p = 47 :: 47 :: (dcl i ++ 32 :: 10 :: (cText (i + 1) js ++ [59])) := by rw [h]; simp [cItem]
      have h3 : S.data.toList.drop (p + 2) = dcl i ++ 32 :: 10 :: (cText (i + 1) js ++ [59]) := by rw [← List.drop_drop, h2]; rfl
      have h4 : S.data.toList.drop (p + 2 + ((dcl i).length + 1)) = 10 :: (cText (i + 1) js ++ [59]) := by
        rw [← List.drop_drop, h3, ← List.drop_drop, List.drop_left]
        rfl
      have hk : cmKind p (S.data.toList.drop p) = 1 := by rw [h2]; rfl
      rw [hl] at ih1 hsz ⊢
      refine ⟨_, (btw_cm (n := (dcl i).length + 1) (ln := false) line (by omega) (by rw [h2]; exact low_gap 47 _ (by decide) (by decide)) (by rw [hk]; decide) ?_).trans (pre_fine (cs := cs) ?_), ?_⟩
      · rw [hk, h3]
        exact cmt_digits false _ 1 false (cmt_end1 _) _ hd2
      · rw [btw_gap (c := 10) (rest := cText (i + 1) js ++ [59]) _ h4 (by decide) (by decide +kernel)]
        rw [show p + (2 + ((dcl i).length + 1) + 1 + (cText (i + 1) js).length) = p + (2 + ((dcl i).length + 1) + 1) + (cText (i + 1) js).length by omega, show p + 2 + ((dcl i).length + 1) + 1 = p + (2 + ((dcl i).length + 1) + 1) by omega]
        rw [show (line || false || endsR ((10 : UInt8).toNat : Int)) = (line || cLn 1) by rw [Bool.or_false]; rfl]
        exact ih1
      · unfold tells at ih2 ⊢
        rw [List.map_append, ih2, hk]
        simp only [List.map_cons, List.map_nil, cOne]
        rw [show p + 2 + ((dcl i).length + 1) = p + (2 + ((dcl i).length + 1)) by omega, ext_take, h2, show 47 :: 47 :: (dcl i ++ 32 :: 10 :: (cText (i + 1) js ++ [59])) = ([47, 47] ++ dcl i ++ [32]) ++ 10 :: (cText (i + 1) js ++ [59]) by simp, List.take_left' (by simp; omega)]
        rfl
    | 2 =>
      have hl : (cItem i 2).length = 2 + ((dcl i).length + 3) := by simp [cItem]; omega
      have h2 : S.data.toList.drop p = 47 :: 42 :: (dcl i ++ 42 :: 42 :: 47 :: (cText (i + 1) js ++ [59])) := by rw [h]; simp [cItem]
      have h3 : S.data.toList.drop (p + 2) = dcl i ++ 42 :: 42 :: 47 :: (cText (i + 1) js ++ [59]) := by rw [← List.drop_drop, h2]; rfl
      have hk : cmKind p (S.data.toList.drop p) = 2 := by rw [h2]; rfl
      rw [hl] at ih1 hsz ⊢
      refine ⟨_, (btw_cm (n := (dcl i).length + 3) (ln := false) line (by omega) (by rw [h2]; exact low_gap 47 _ (by decide) (by decide)) (by rw [hk]; decide) ?_).trans (pre_fine (cs := cs) ?_), ?_⟩
      · rw [hk, h3]
        exact cmt_digits true _ 3 false (cmt_end2 _) _ hd2
      · rw [show p + (2 + ((dcl i).length + 3) + (cText (i + 1) js).length) = p + (2 + ((dcl i).length + 3)) + (cText (i + 1) js).length by omega, show p + 2 + ((dcl i).length + 3) = p + (2 + ((dcl i).length + 3)) by omega]
        exact ih1
      · unfold tells at ih2 ⊢
        rw [List.map_append, ih2, hk]
        simp only [List.map_cons, List.map_nil, cOne]
        rw [show p + 2 + ((dcl i).length + 3) = p + (2 + ((dcl i).length + 3)) by omega, ext_take, h2, show 47 :: 42 :: (dcl i ++ 42 :: 42 :: 47 :: (cText (i + 1) js ++ [59])) = ([47, 42] ++ dcl i ++ [42, 42, 47]) ++ (cText (i + 1) js ++ [59]) by simp, List.take_left' (by simp; omega)]
        rfl
    | j + 3 =>
      have hl : (cItem i (j + 3)).length = 2 + 4 := rfl
      have h2 : S.data.toList.drop p = 47 :: 42 :: 10 :: 47 :: 42 :: 47 :: (cText (i + 1) js ++ [59]) := by rw [h]; rfl
      have h3 : S.data.toList.drop (p + 2) = 10 :: 47 :: 42 :: 47 :: (cText (i + 1) js ++ [59]) := by rw [← List.drop_drop, h2]; rfl
      have hk : cmKind p (S.data.toList.drop p) = 2 := by rw [h2]; rfl
      rw [hl] at ih1 hsz ⊢
      refine ⟨_, (btw_cm (n := 4) (ln := true) line (by omega) (by rw [h2]; exact low_gap 47 _ (by decide) (by decide)) (by rw [hk]; decide) ?_).trans (pre_fine (cs := cs) ?_), ?_⟩
      · rw [hk, h3]
        exact cmt_end3 _
      · rw [show p + (2 + 4 + (cText (i + 1) js).length) = p + (2 + 4) + (cText (i + 1) js).length by omega, show p + 2 + 4 = p + (2 + 4) by omega]
        exact ih1
      · unfold tells at ih2 ⊢
        rw [List.map_append, ih2, hk]
        simp only [List.map_cons, List.map_nil, cOne]
        rw [show p + 2 + 4 = p + (2 + 4) by omega, ext_take, h2]
        rfl
/-- the law in plain. -/
theorem comments_nxt {S : ByteArray} {js : List Nat} (hj : js.length ≤ 20) (hS : S.data.toList = 97 :: (cText 0 js ++ [59])) : ∃ cs q, nxt S 1 1 = .fine 5 q 1 (cLine js) cs ∧ tells cs = cRow 0 js ∧ S.extract q (q + 1) = ⟨#[59]⟩ ∧ q + 1 = S.size := by
  have hd : S.data.toList.drop 1 = cText 0 js ++ [59] := by rw [hS]; rfl
  obtain ⟨cs, h1, h2⟩ := btw_cm_items js 0 1 false (by omega) hd
  have hq : S.data.toList.drop (1 + (cText 0 js).length) = [59] := drop_more hd rfl
  have hsz := size_drop hq (by simp)
  have ht : tokT 1 [59] = .fine 5 1 := by kernel_rfl
  refine ⟨cs, 1 + (cText 0 js).length, ?_, h2, ?_, hsz⟩
  · rw [nxt_ok (by omega), if_neg (by omega), h1, Bool.false_or]
    simp only [hq, ht]
  · apply ba_ext
    rw [ext_take, hq]
    rfl
end Go.Proofs.YtdkkfbakggbaeaaDoor
