/- Plain: digits with _ between any two, read; a _ ahead or behind, not read. Then as calls of Check and Canon. Condition of the calls: MaxLen holds a number. -/
import Derived.Test.YthnchejhcmpipaaDoorW
import Derived.Test.YthnchejhcmpipaaDoorY
namespace Go.Proofs.YthnchejhcmpipaaDoor
open Go.RowKit

def allD (β : Nat) (l : List UInt8) : Prop := ∀ c ∈ l, isD β c = true ∧ c ≠ 95
theorem runN_allD {β : Nat} : ∀ (l : List UInt8) (p : Bool), allD β l → runN β p l = l.length
  | [], _, _ => rfl
  | c :: l, p, h => by
    rw [runN, if_pos (h c List.mem_cons_self).1, runN_allD l true fun d hd => h d (List.mem_cons_of_mem _ hd)]
    rfl
theorem runN_mid {β : Nat} (d2 : List UInt8) (h2 : allD β d2) (n2 : d2 ≠ []) : ∀ (d1 : List UInt8) (p : Bool), allD β d1 → (d1 ≠ [] ∨ p = true) → runN β p (d1 ++ 95 :: d2) = (d1 ++ 95 :: d2).length
  | [], p, _, hp => by
    have hp' : p = true := hp.resolve_left (fun h => h rfl)
    subst hp'
    have hh : headD β d2 = true := by
      cases d2 with
      | nil => exact absurd rfl n2
      | cons c t => exact (h2 c List.mem_cons_self).1
    rw [List.nil_append, runN, if_neg (by rw [isD_95]; decide), if_pos ⟨rfl, rfl, hh⟩, runN_allD d2 false h2]
    rfl
  | c :: d1, p, h, _ => by
    rw [List.cons_append, runN, if_pos (h c List.mem_cons_self).1, runN_mid d2 h2 n2 d1 true (fun d hd => h d (List.mem_cons_of_mem _ hd)) (.inr rfl)]
    rfl
theorem runN_behind {β : Nat} : ∀ (l : List UInt8) (p : Bool), allD β l → runN β p (l ++ [95]) = l.length
  | [], p, _ => by
    rw [List.nil_append, runN, if_neg (by rw [isD_95]; decide), if_neg (fun h => by cases h.2.2)]
    rfl
  | c :: l, p, h => by
    rw [List.cons_append, runN, if_pos (h c List.mem_cons_self).1, runN_behind l true fun d hd => h d (List.mem_cons_of_mem _ hd)]
    rfl
theorem runN_ahead (β : Nat) (l : List UInt8) : runN β false (95 :: l) = 0 := by
  rw [runN, if_neg (by rw [isD_95]; decide), if_neg (fun h => by cases h.2.1)]
theorem plainL_all {β : Nat} {l : List UInt8} (h : allD β l) : plainL l = l := List.filter_eq_self.2 fun c hc => decide_eq_true (h c hc).2
theorem plainL_mid {β : Nat} {d1 d2 : List UInt8} (h1 : allD β d1) (h2 : allD β d2) : plainL (d1 ++ 95 :: d2) = d1 ++ d2 := by
  rw [plainL_append, plainL_all h1, show (95 :: d2 : List UInt8) = [95] ++ d2 from rfl, plainL_append, plainL_all h2]
  rfl
/-! ## another base -/
theorem oth_mk {c1 : UInt8} {w : List UInt8} (hb : (c1.toNat ||| 32) = 120 ∨ (c1.toNat ||| 32) = 111 ∨ (c1.toNat ||| 32) = 98) (h65 : 65 ≤ c1.toNat) (hr : runN (c1.toNat ||| 32) false w = w.length) (hne : w ≠ []) : Oth (mkB (48 :: c1 :: w)) c1 w false :=
  ⟨by rw [mkB_list]; simp [endB], hb, h65, hr, hne⟩
theorem oth_edge {c1 : UInt8} {r : List UInt8} (hb : (c1.toNat ||| 32) = 120 ∨ (c1.toNat ||| 32) = 111 ∨ (c1.toNat ||| 32) = 98) (h65 : 65 ≤ c1.toNat) (hne : r ≠ []) (h : runN (c1.toNat ||| 32) false r = 0 ∨ r.drop (runN (c1.toNat ||| 32) false r) = [95]) : (readB (mkB (48 :: c1 :: r))).2 = false := by
  have ho : isOth (mkB (48 :: c1 :: r)) = true := isOth_parts _ c1 r false (by rw [mkB_list]; simp [endB]) hb h65 hne
  have hs : scanB (mkB (48 :: c1 :: r)) = scanOth (mkB (48 :: c1 :: r)) := by unfold scanB; rw [if_pos ho]
  have hD : ((mkB (48 :: c1 :: r)).extract 2 (mkB (48 :: c1 :: r)).size).data.toList = r := by rw [extract_drop]; rfl
  have h1 : (mkB (48 :: c1 :: r)).data.toList[1]! = c1 := rfl
  unfold readB
  rw [hs]
  unfold scanOth runB
  simp only [h1, hD, extract_drop]
  rcases h with h | h
  · rw [h]
    have : ((mkB (48 :: c1 :: r)).extract 2 (mkB (48 :: c1 :: r)).size |>.extract 0 0).size = 0 := by rw [ByteArray.size_extract]; omega
    rw [this]
    rfl
  · rw [h]
    have : (ByteArray.mk (Lib.trimPrefix [95] [110]).toArray).toList.isEmpty = false := by rw [Lib.toList_data]; rfl
    rw [this]
    simp
/-! ## base ten -/
theorem ten_mk {w : List UInt8} (hw : wholeOk w) (hne : w ≠ []) : Ten w false [] false false [] false :=
  ⟨hw, rfl, .inl hne, fun _ => rfl, fun h => by (cases h), fun _ => ⟨rfl, rfl⟩, fun h => by (cases h)⟩
theorem ten_read {w : List UInt8} (hw : wholeOk w) (hne : w ≠ []) : readB (mkB w) = (tenLit w false [] false false [] false, true) := by
  have h := (ten_mk hw hne).read
  have e : tenText w false [] false false [] false = w := by simp [tenText, ptText, expText, endB]
  rw [e] at h
  exact h
theorem canonT_plain {w w' : List UInt8} (h : plainL w = plainL w') : canonT (tenLit w false [] false false [] false) = canonT (tenLit w' false [] false false [] false) := by
  have hd : digsT (tenLit w false [] false false [] false) = digsT (tenLit w' false [] false false [] false) := by
    show Lib.trimLeftB (plainL w ++ plainL []) 48 = Lib.trimLeftB (plainL w' ++ plainL []) 48
    rw [h]
  have hv : valT (tenLit w false [] false false [] false) = valT (tenLit w' false [] false false [] false) := by
    unfold valT
    rw [hd]
    rfl
  unfold canonT
  rw [hd, hv]
  rfl
theorem scanDec_none {t W R F R2 : ByteArray} {pt : Bool} (hw : wholeO t = (W, R)) (hp : partO R = (pt, F, R2)) (h0 : W.size = 0) (h1 : F.size = 0) : (scanDec t).2.2 = false := by
  unfold scanDec
  simp only [hw, hp]
  rw [if_pos (by rw [h0, h1]; rfl)]
theorem scanDec_some {t W R F R2 R3 R4 : ByteArray} {pt : Bool} {x y : Lit} (hw : wholeO t = (W, R)) (hp : partO R = (pt, F, R2)) (h0 : W.size ≠ 0) (he : expL (lit10 W pt F) R2 = (x, R3)) (hb : bigL x R3 = (y, R4)) : scanDec t = (y, R4, true) := by
  unfold scanDec
  simp only [hw, hp, he, hb]
  rw [if_neg]
  rw [decide_eq_false h0]
  simp
theorem ten_canon {w : List UInt8} (hw : wholeOk w) (hne : w ≠ []) : canonB (mkB w) = (canonT (tenLit w false [] false false [] false), 0) := by
  unfold canonB
  rw [ten_read hw hne, if_pos rfl, if_neg (base10 _ _ _ _ _ _ _)]
theorem notOth {l : List UInt8} (h : l.head? ≠ some 48) : isOth (mkB l) = false := by
  cases ho : isOth (mkB l) with
  | false => rfl
  | true =>
    obtain ⟨c1, r, e, _, _⟩ := isOth_head ho
    rw [mkB_list] at e
    rw [e] at h
    exact absurd rfl h
theorem ten_ahead (d : List UInt8) : (readB (mkB (95 :: d))).2 = false := by
  have hs : scanB (mkB (95 :: d)) = scanDec (mkB (95 :: d)) := by unfold scanB; rw [notOth (by intro e; revert e; simp), if_neg (by decide)]
  have hw : wholeO (mkB (95 :: d)) = (mkB [], mkB (95 :: d)) := by
    unfold wholeO
    rw [mkB_list, hasPrefix_cons, if_neg (by decide)]
    unfold runB
    rw [mkB_list, runN_ahead]
    refine Prod.ext (mkB_of ?_) (mkB_of ?_)
    · rw [extract_take]; rfl
    · rw [extract_drop]; rfl
  have hp : partO (mkB (95 :: d)) = (false, emp, mkB (95 :: d)) := by
    unfold partO
    rw [mkB_list, hasPrefix_cons, if_neg (by decide)]
  unfold readB
  rw [hs, scanDec_none hw hp (mkB_size []) rfl]
  rfl
theorem ten_behind {d : List UInt8} (h : allD 0 d) (hne : d ≠ []) (h48 : d.head? ≠ some 48) : (readB (mkB (d ++ [95]))).2 = false := by
  have hh : (d ++ [95]).head? ≠ some 48 := by
    cases d with
    | nil => exact absurd rfl hne
    | cons c t => exact h48
  have hs : scanB (mkB (d ++ [95])) = scanDec (mkB (d ++ [95])) := by unfold scanB; rw [notOth hh, if_neg (by decide)]
  have hw : wholeO (mkB (d ++ [95])) = (mkB d, mkB [95]) := by
    unfold wholeO
    rw [mkB_list, if_neg]
    · unfold runB
      rw [mkB_list, runN_behind d false h]
      refine Prod.ext (mkB_of ?_) (mkB_of ?_)
      · rw [extract_take, mkB_list, List.take_left]
      · rw [extract_drop, mkB_list, List.drop_left]
    · intro e
      obtain ⟨t, ht⟩ := hasPrefix_one e
      rw [ht] at hh
      exact hh rfl
  have hp : partO (mkB [95]) = (false, emp, mkB [95]) := by
    unfold partO
    rw [mkB_list, hasPrefix_cons, if_neg (by decide)]
  have he : ∀ x, expL x (mkB [95]) = (x, mkB [95]) := fun x => by
    unfold expL
    rw [expO_not 95 [] (by decide)]
  have hb : ∀ x : Lit, bigL x (mkB [95]) = (x, mkB [95]) := fun x => by
    unfold bigL
    rw [mkB_list, hasPrefix_cons, if_neg (by simp)]
  unfold readB
  rw [hs, scanDec_some hw hp (by rw [mkB_size]; exact fun e => hne (List.length_eq_zero_iff.1 e)) (he _) (hb _)]
  have : (mkB [95]).toList.isEmpty = false := by rw [Lib.toList_data]; rfl
  simp only [this, Bool.and_false]
/-! ## the marks -/
def markL (b : Nat) : List UInt8 := if b = 10 then [] else if b = 16 then [48, 120] else if b = 8 then [48, 79] else [48, 98]
theorem runs_mid {b : Nat} (hb : b = 2 ∨ b = 8 ∨ b = 10 ∨ b = 16) {d1 d2 : List UInt8} (h1 : allD (letB b) d1) (h2 : allD (letB b) d2) (n1 : d1 ≠ []) (n2 : d2 ≠ []) (h48 : d1.head? ≠ some 48) :
    (readB (mkB (markL b ++ (d1 ++ 95 :: d2)))).2 = true ∧ ∃ C, canonB (mkB (markL b ++ (d1 ++ 95 :: d2))) = (C, 0) ∧ canonB (mkB (markL b ++ (d1 ++ d2))) = (C, 0) := by
  have hr := runN_mid d2 h2 n2 d1 false h1 (.inl n1)
  have h12 : allD (letB b) (d1 ++ d2) := fun c hc => (List.mem_append.1 hc).elim (h1 c) (h2 c)
  have hr2 := runN_allD (d1 ++ d2) false h12
  have hp := plainL_mid h1 h2
  have hp2 := plainL_all h12
  have hne : d1 ++ 95 :: d2 ≠ [] := by simp
  have hne2 : d1 ++ d2 ≠ [] := by simp [n1]
  have hd1 : (d1 ++ 95 :: d2).head? ≠ some 48 := by
    cases d1 with
    | nil => exact absurd rfl n1
    | cons c t => exact h48
  have hd2 : (d1 ++ d2).head? ≠ some 48 := by
    cases d1 with
    | nil => exact absurd rfl n1
    | cons c t => exact h48
  have other : ∀ c1 : UInt8, letB b = (c1.toNat ||| 32) → ((c1.toNat ||| 32) = 120 ∨ (c1.toNat ||| 32) = 111 ∨ (c1.toNat ||| 32) = 98) → 65 ≤ c1.toNat → markL b = [48, c1] → (readB (mkB (markL b ++ (d1 ++ 95 :: d2)))).2 = true ∧ ∃ C, canonB (mkB (markL b ++ (d1 ++ 95 :: d2))) = (C, 0) ∧ canonB (mkB (markL b ++ (d1 ++ d2))) = (C, 0) := by
    intro c1 hl hc h65 hm
    rw [hl] at hr hr2
    have o1 := oth_mk hc h65 hr hne
    have o2 := oth_mk hc h65 hr2 hne2
    rw [hm]
    have r1 := o1.read
    have e1 := o1.canon
    have e2 := o2.canon
    rw [hp] at e1
    rw [hp2] at e2
    exact ⟨by show (readB (mkB (48 :: c1 :: (d1 ++ 95 :: d2)))).2 = true; rw [r1], _, e1, e2⟩
  rcases hb with rfl | rfl | rfl | rfl
  · exact other 98 rfl (by decide) (by decide) rfl
  · exact other 79 rfl (by decide) (by decide) rfl
  · have w1 : wholeOk (d1 ++ 95 :: d2) := .inr ⟨hr, hd1⟩
    have w2 : wholeOk (d1 ++ d2) := .inr ⟨hr2, hd2⟩
    refine ⟨?_, canonT (tenLit (d1 ++ d2) false [] false false [] false), ?_, ?_⟩
    · show (readB (mkB (d1 ++ 95 :: d2))).2 = true
      rw [ten_read w1 hne]
    · show canonB (mkB (d1 ++ 95 :: d2)) = _
      rw [ten_canon w1 hne, canonT_plain (hp.trans hp2.symm)]
    · show canonB (mkB (d1 ++ d2)) = _
      rw [ten_canon w2 hne2]
  · exact other 120 rfl (by decide) (by decide) rfl
theorem runs_ahead {b : Nat} (hb : b = 2 ∨ b = 8 ∨ b = 10 ∨ b = 16) (d : List UInt8) : (readB (mkB (markL b ++ 95 :: d))).2 = false := by
  rcases hb with rfl | rfl | rfl | rfl
  · exact oth_edge (c1 := 98) (by decide) (by decide) (by simp) (.inl (runN_ahead _ d))
  · exact oth_edge (c1 := 79) (by decide) (by decide) (by simp) (.inl (runN_ahead _ d))
  · exact ten_ahead d
  · exact oth_edge (c1 := 120) (by decide) (by decide) (by simp) (.inl (runN_ahead _ d))
theorem runs_behind {b : Nat} (hb : b = 2 ∨ b = 8 ∨ b = 10 ∨ b = 16) {d : List UInt8} (h : allD (letB b) d) (hne : d ≠ []) (h48 : d.head? ≠ some 48) : (readB (mkB (markL b ++ (d ++ [95])))).2 = false := by
  have hr := runN_behind d false h
  have hdr : (d ++ [95]).drop (runN (letB b) false (d ++ [95])) = [95] := by rw [hr]; exact List.drop_left
  rcases hb with rfl | rfl | rfl | rfl
  · exact oth_edge (c1 := 98) (by decide) (by decide) (by simp) (.inr hdr)
  · exact oth_edge (c1 := 79) (by decide) (by decide) (by simp) (.inr hdr)
  · exact ten_behind h hne h48
  · exact oth_edge (c1 := 120) (by decide) (by decide) (by simp) (.inr hdr)
end Go.Proofs.YthnchejhcmpipaaDoor
