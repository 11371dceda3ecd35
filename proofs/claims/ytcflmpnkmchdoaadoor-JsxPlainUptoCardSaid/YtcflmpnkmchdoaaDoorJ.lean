/- Contracts: jsx.blank, jsx.Words, platenref7.Words, SameTexts, Num. A text up to 2^24 bytes; lists up to 2^25 texts. -/
import Derived.Test.YtcflmpnkmchdoaaDoorI
import Derived.Test.YtcflmpnkmchdoaaDoorR
import Derived.Test.YtcflmpnkmchdoaaDoorP
import Derived.Test.YtcflmpnkmchdoaaDoorE
namespace Go.Proofs.YtcflmpnkmchdoaaDoor
open Go.RowKit

/-- a slice of texts, as a value that a world holds: nil or in a row. -/
def Texts (w : World) (base : Nat) (v : Value) (xs : List (List UInt8)) : Prop := w.ownsRow base 9 1 v xs.length (xs.map strV)
theorem Texts.below {A B : World} {base : Nat} {v : Value} {xs : List (List UInt8)} (h : Texts A base v xs) (hb : Below A.heap.size A B) : Texts B base v xs := row_below h hb
theorem Texts.slice {w : World} {base : Nat} {v : Value} {xs : List (List UInt8)} (h : Texts w base v xs) : ∃ a c, v = .slice a xs.length c ∧ ∀ j (hj : j < xs.length), ∃ g, a = some ⟨g, 0, none⟩ ∧ w.cell? ⟨g, j, none⟩ = some (.string ⟨(xs[j]).toArray⟩) := by
  unfold Texts at h
  rcases h.2 with ⟨rfl, h0⟩ | ⟨g, cap, cur, rfl, _⟩
  · exact ⟨none, 0, by rw [h0], fun j hj => by omega⟩
  · refine ⟨_, _, rfl, fun j hj => ⟨g, rfl, ?_⟩⟩
    rw [World.ownsRow.cellAt h j (by omega), List.getElem?_map, List.getElem?_eq_getElem hj]
    rfl

theorem num_any (n : Int) (w : World) : Calls Tryd.prog 11 #[.int .i64 n] w fun e w' => e = .returned (.int .i64 n) ∧ w = w' := by
  go_enter Tryd.func11, Tryd.ntmps11
  go_wp2
  go_ret
  exact ⟨rfl, rfl⟩

set_option maxHeartbeats 400000 in
theorem blank_any (c : Nat) (w : World) : Calls Tryd.prog 29 #[.int .i32 c] w fun e w' => e = .returned (.bool (isWr c)) ∧ w = w' := by
  by_cases h1 : c = 32
  · subst h1; go_enter Tryd.func29, Tryd.ntmps29; go_wp2; go_ret; exact ⟨rfl, rfl⟩
  by_cases h2 : c = 9
  · subst h2; go_enter Tryd.func29, Tryd.ntmps29; go_wp2; go_ret; exact ⟨rfl, rfl⟩
  by_cases h3 : c = 10
  · subst h3; go_enter Tryd.func29, Tryd.ntmps29; go_wp2; go_ret; exact ⟨rfl, rfl⟩
  by_cases h4 : c = 13
  · subst h4; go_enter Tryd.func29, Tryd.ntmps29; go_wp2; go_ret; exact ⟨rfl, rfl⟩
  have e : isWr c = false := by simp [isWr, h1, h2, h3, h4]
  have b1 : ((c : Int) == 32) = false := by rw [beq_eq_false_iff_ne]; omega
  have b2 : ((c : Int) == 9) = false := by rw [beq_eq_false_iff_ne]; omega
  have b3 : ((c : Int) == 10) = false := by rw [beq_eq_false_iff_ne]; omega
  have b4 : ((c : Int) == 13) = false := by rw [beq_eq_false_iff_ne]; omega
  rw [e]
  clear h1 h2 h3 h4 e
  go_enter Tryd.func29, Tryd.ntmps29; go_wp2; go_ret; exact ⟨rfl, rfl⟩

set_option maxHeartbeats 400000 in
theorem words_any (s : ByteArray) (w : World) (hs : s.size ≤ 16777216) :
    Calls Tryd.prog 13 #[.string s] w fun e w' => ∃ v, e = .returned v ∧ Texts w' w.heap.size v (wordsL s.data.toList) ∧ Below w.heap.size w w' := by
  have hF := Tryd.strings_FieldsFunc_grows 29 #[] (enters_of Tryd.func29 (by kernel_rfl) rfl) isWr s w (by omega)
    (fun W x _ _ => (blank_any x W).mono fun e w' ⟨he, hw⟩ => ⟨he, hw ▸ Below.refl _ _⟩)
  have HF := Lib.hid hF
  clear hF
  go_enter Tryd.func13, Tryd.ntmps13
  go_wp2_with (go_at_call 28; refine HF.out.mono ?_)
  rintro e w' ⟨A, rfl, hA, hown, hb⟩
  go_wp2_with fail
  go_ret
  refine ⟨_, rfl, ?_, hb⟩
  have hw := fields_words s
  have hl : (Lib.goFieldsP isWr s).length = (wordsL s.data.toList).length := by rw [← hw, List.length_map]
  have hm : (Lib.goFieldsP isWr s).map Value.string = (wordsL s.data.toList).map strV := by
    rw [← hw, List.map_map]
    apply List.map_congr_left
    intro x _
    show Value.string x = Value.string ⟨x.data.toList.toArray⟩
    rw [byteArray_ext x _ rfl]
  unfold Texts
  rw [← hl, ← hm]
  exact hown

set_option maxHeartbeats 1000000 in
/-- two lists of texts, text by text. -/
theorem sameTexts_any (va vb : Value) (ba bb : Nat) (xs ys : List (List UInt8)) (w : World) (ha : Texts w ba va xs) (hb : Texts w bb vb ys) (hx : xs.length ≤ 33554432) (hy : ys.length ≤ 33554432) :
    Calls Tryd.prog 15 #[va, vb] w fun e w' => e = .returned (.bool (decide (xs = ys))) ∧ Below w.heap.size w w' := by
  obtain ⟨a, c, rfl, hca⟩ := ha.slice
  obtain ⟨b, d, rfl, hcb⟩ := hb.slice
  clear ha hb
  have HA := Lib.hid hca
  have HB := Lib.hid hcb
  clear hca hcb
  by_cases hne : xs.length = ys.length
  · have HN := Lib.hid hne
    have h1 : ((xs.length : Int) != (ys.length : Int)) = false := by rw [bne_eq_false_iff_eq]; omega
    clear hne
    go_enter Tryd.func15, Tryd.ntmps15
    go_wp2_with fail
    go_loopw [5] (fun i wr => ∃ k : Nat, k ≤ xs.length ∧ i = .int .i64 k ∧ xs.take k = ys.take k ∧ Below w.heap.size w wr ∧ ∀ p, wr.cell? p = w.cell? p) (fun i _ => xs.length - (intOf i).toNat)
    case atStart => exact ⟨0, by omega, rfl, rfl, Below.refl _ _, fun _ => rfl⟩
    case round =>
      obtain ⟨k, hk, rfl, heq, hbel, hcell⟩ := hrel
      have HE := Lib.hid heq
      clear heq
      by_cases hlt : k < xs.length
      · have hlt2 : k < ys.length := by have := HN.out; omega
        obtain ⟨g, rfl, hg⟩ := HA.out k hlt
        obtain ⟨g2, rfl, hg2⟩ := HB.out k hlt2
        rw [← hcell] at hg hg2
        have HC := Lib.hid hcell
        clear hcell
        go_wp2_with fail
        go_quiet (fail)
        go_wp2_with fail
        · rename_i h
          have hneq : decide (xs = ys) = false := by
            refine decide_eq_false (fun e => ?_)
            subst e
            simp at h
          have Hneq := Lib.hid hneq
          clear h
          go_ret
          exact ⟨by rw [Hneq.out]; rfl, bel_drewN hbel _⟩
        · rename_i h
          have hk1 : xs.take (k + 1) = ys.take (k + 1) := by
            have e : xs[k] = ys[k] := by simpa using h
            rw [List.take_succ_eq_append_getElem hlt, List.take_succ_eq_append_getElem hlt2, HE.out, e]
          have HK := Lib.hid hk1
          clear h
          go_roundw
          case rel => exact ⟨k + 1, by omega, by go_num, HK.out, bel_drewN hbel _, fun p => HC.out p⟩
          case measure => simp [intOf]; omega
      · obtain rfl : k = xs.length := by omega
        have hxy : xs = ys := by
          have h := HE.out
          rw [List.take_of_length_le (Nat.le_refl _)] at h
          rw [h]
          exact List.take_of_length_le (by have := HN.out; omega)
        have Hxy := Lib.hid hxy
        clear hxy hcell
        go_wp2_with fail
        go_ret
        exact ⟨by rw [decide_eq_true Hxy.out]; rfl, hbel⟩
  · have h1 : ((xs.length : Int) != (ys.length : Int)) = true := by rw [bne_iff_ne]; omega
    have hd : decide (xs = ys) = false := decide_eq_false (fun e => hne (by rw [e]))
    rw [hd]
    clear hne hd
    go_enter Tryd.func15, Tryd.ntmps15
    go_wp2_with fail
    go_ret
    exact ⟨rfl, Below.refl _ _⟩
end Go.Proofs.YtcflmpnkmchdoaaDoor
