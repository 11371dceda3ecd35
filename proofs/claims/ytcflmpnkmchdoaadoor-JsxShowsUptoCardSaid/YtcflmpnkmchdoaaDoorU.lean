/- The contract of the reference's Words (package platenref7): it gives wordsL. Condition: at most 2^24 bytes. -/
import Derived.Test.YtcflmpnkmchdoaaDoorL
import Derived.Test.YtcflmpnkmchdoaaDoorJ
namespace Go.Proofs.YtcflmpnkmchdoaaDoor
open Go.RowKit

/-- where the word under way began. -/
def fromV : Option Nat → Value
  | some a => .int .i64 a
  | none => .int .i64 (-1)
/-- is place k an end of words? -/
def endsW (s : ByteArray) (k : Nat) : Bool := if h : k < s.size then isW s[k] else true
def WordsRel (s : ByteArray) (B k : Nat) (w wr : World) (fr v : Value) : Prop :=
  ∃ (st : Option Nat) (acc : List (List UInt8)), fr = fromV st ∧ acc.length ≤ k ∧ (∀ a, st = some a → a < k) ∧
    ((k ≤ s.size ∧ wordsL s.data.toList = acc ++ wordsGo (curOf s st k) (s.data.toList.drop k)) ∨ (k = s.size + 1 ∧ wordsL s.data.toList = acc)) ∧
    wr.ownsRow B 9 1 v acc.length (acc.map strV) ∧ Below B w wr

set_option maxRecDepth 100000 in
set_option maxHeartbeats 2000000 in
theorem words_ref (s : ByteArray) (w : World) (hs : s.size ≤ 16777216) :
    Calls Tryd.prog 14 #[.string s] w fun e w' => ∃ v, e = .returned v ∧ Texts w' w.heap.size v (wordsL s.data.toList) ∧ Below w.heap.size w w' := by
  obtain ⟨i0, hi, hz0, hz1, hz2⟩ := info_parts infoStr
  go_enter Tryd.func14, Tryd.ntmps14
  go_wp2_with fail
  go_loopw [5, 4, 3] (fun i fr v wr => ∃ k : Nat, k ≤ s.size + 1 ∧ i = .int .i64 k ∧ WordsRel s w.heap.size k w wr fr v) (fun i _ _ _ => s.size + 1 - (intOf i).toNat)
  case atStart => exact ⟨0, Nat.zero_le _, rfl, none, [], rfl, by simp, by simp, .inl ⟨by omega, by simp [wordsL, curOf]⟩, World.ownsRow_nil _ _ _ _, Below.refl _ _⟩
  case round =>
    obtain ⟨k, hk, rfl, st, acc, rfl, hal, hst, hor, hown, hbel⟩ := hrel
    have hsz := hbel.size
    by_cases hle : k ≤ s.size
    · have heq : wordsL s.data.toList = acc ++ wordsGo (curOf s st k) (s.data.toList.drop k) := by
        rcases hor with ⟨_, h⟩ | ⟨h, _⟩
        · exact h
        · omega
      have HE := Lib.hid heq
      have HST := Lib.hid hst
      clear heq hor hst
      go_upto_region 6 with fail
      go_cut [6] (fun b wx => b = .bool (endsW s k) ∧ wx = wr)
      case first =>
        clear HE HST hown hbel hsz hal
        by_cases hlt : k < s.size
        · have hb : endsW s k = isW s[k] := dif_pos hlt
          have hne : ((k : Int) == (s.size : Int)) = false := by rw [beq_eq_false_iff_ne]; omega
          have HB := Lib.hid hb
          have HW := Lib.hid (show isW s[k] = (s[k].toNat == 32 || s[k].toNat == 9 || s[k].toNat == 10 || s[k].toNat == 13) from rfl)
          clear hb
          by_cases h1 : s[k].toNat = 32
          · have b1 : ((s[k].toNat : Int) == 32) = true := by rw [h1]; rfl
            rw [h1] at HW
            clear h1
            go_wp2_with fail
            go_meet
            exact ⟨by rw [HB.out, HW.out]; rfl, rfl⟩
          have b1 : ((s[k].toNat : Int) == 32) = false := by rw [beq_eq_false_iff_ne]; omega
          by_cases h2 : s[k].toNat = 9
          · have b2 : ((s[k].toNat : Int) == 9) = true := by rw [h2]; rfl
            rw [h2] at HW
            clear h1 h2
            go_wp2_with fail
            go_meet
            exact ⟨by rw [HB.out, HW.out]; rfl, rfl⟩
          have b2 : ((s[k].toNat : Int) == 9) = false := by rw [beq_eq_false_iff_ne]; omega
          by_cases h3 : s[k].toNat = 10
          · have b3 : ((s[k].toNat : Int) == 10) = true := by rw [h3]; rfl
            rw [h3] at HW
            clear h1 h2 h3
            go_wp2_with fail
            go_meet
            exact ⟨by rw [HB.out, HW.out]; rfl, rfl⟩
          have b3 : ((s[k].toNat : Int) == 10) = false := by rw [beq_eq_false_iff_ne]; omega
          by_cases h4 : s[k].toNat = 13
          · have b4 : ((s[k].toNat : Int) == 13) = true := by rw [h4]; rfl
            rw [h4] at HW
            clear h1 h2 h3 h4
            go_wp2_with fail
            go_meet
            exact ⟨by rw [HB.out, HW.out]; rfl, rfl⟩
          have b4 : ((s[k].toNat : Int) == 13) = false := by rw [beq_eq_false_iff_ne]; omega
          have e : isW s[k] = false := by simp [isW, h1, h2, h3, h4]
          have HF := Lib.hid e
          clear h1 h2 h3 h4 e
          go_wp2_with fail
          go_meet
          exact ⟨by rw [HB.out, HF.out], rfl⟩
        · obtain rfl : k = s.size := by omega
          have hb : endsW s s.size = true := dif_neg hlt
          have HB := Lib.hid hb
          clear hb
          go_wp2_with fail
          go_meet
          exact ⟨by rw [HB.out], rfl⟩
      case rest =>
        obtain ⟨rfl, hwc⟩ := hcut
        subst hwc
        cases st with
        | none =>
          by_cases hb : endsW s k = true
          · have hnext : (k + 1 ≤ s.size ∧ wordsL s.data.toList = acc ++ wordsGo (curOf s none (k + 1)) (s.data.toList.drop (k + 1))) ∨ (k + 1 = s.size + 1 ∧ wordsL s.data.toList = acc) := by
              unfold endsW at hb
              split at hb
              · rename_i hlt
                exact .inl ⟨hlt, by rw [HE.out, words_blank s none k HST.out hlt hb]; rfl⟩
              · obtain rfl : k = s.size := by omega
                exact .inr ⟨rfl, by rw [HE.out, words_end s none HST.out]; simp⟩
            have HN := Lib.hid hnext
            clear hnext
            rw [hb]
            clear hb
            simp only [fromV]
            go_wp2_with fail
            go_roundw
            case rel => exact ⟨k + 1, by omega, by go_num, none, acc, rfl, by omega, by simp, HN.out, hown, hbel⟩
            case measure => simp [intOf]; omega
          · have hbf : endsW s k = false := by simpa using hb
            have hlt : k < s.size := by
              apply Classical.byContradiction
              intro h
              rw [endsW, dif_neg h] at hbf
              cases hbf
            have hnext : wordsL s.data.toList = acc ++ wordsGo (curOf s (some k) (k + 1)) (s.data.toList.drop (k + 1)) := by
              rw [HE.out, words_skip s none k 1 HST.out (by omega) (by omega) (fun j hj => by
                obtain rfl : j = 0 := by omega
                refine ⟨hlt, ?_⟩
                rw [endsW, dif_pos hlt] at hbf
                exact hbf)]
              rfl
            have HN := Lib.hid hnext
            clear hnext
            rw [hbf]
            clear hb hbf
            simp only [fromV]
            go_wp2_with fail
            go_roundw
            case rel => exact ⟨k + 1, by omega, by go_num, some k, acc, rfl, by omega, by simp, .inl ⟨by omega, HN.out⟩, hown, hbel⟩
            case measure => simp [intOf]; omega
        | some a =>
          have hak := HST.out a rfl
          by_cases hb : endsW s k = true
          · have hnext : (k + 1 ≤ s.size ∧ wordsL s.data.toList = (acc ++ [(s.data.toList.drop a).take (k - a)]) ++ wordsGo (curOf s none (k + 1)) (s.data.toList.drop (k + 1))) ∨ (k + 1 = s.size + 1 ∧ wordsL s.data.toList = acc ++ [(s.data.toList.drop a).take (k - a)]) := by
              unfold endsW at hb
              split at hb
              · rename_i hlt
                exact .inl ⟨hlt, by rw [HE.out, words_blank s (some a) k HST.out hlt hb, List.append_assoc]⟩
              · obtain rfl : k = s.size := by omega
                exact .inr ⟨rfl, by rw [HE.out, words_end s (some a) HST.out]⟩
            have HN := Lib.hid hnext
            clear hnext
            rw [hb]
            clear hb
            simp only [fromV]
            go_wp2_with (at_builtin; refine wpList_append_own_at _ rfl _ _ 30 rfl w.heap.size 9 i0 (.string ⟨#[]⟩) 1 16 (by kernel_rfl) hi hz0 hz1 hz2 rfl (by decide) _ _ _ rfl (hown.alloc _) ⟨wc.heap.size, 0, none⟩ 1 1 [.string (s.extract a k)] rfl rfl (cell_one_new _ _ _) (fun u hu => by simp at hu; subst hu; rfl) (by unfold maxLen; omega) (by omega) (by rw [World.size_alloc]; omega) ?_)
            intro v' w1 hown' hgrow _ _
            have hb1 : Below w.heap.size w w1 := below_push hbel (by omega) hown hgrow
            have ho1 : w1.ownsRow w.heap.size 9 1 v' (acc ++ [(s.data.toList.drop a).take (k - a)]).length ((acc ++ [(s.data.toList.drop a).take (k - a)]).map strV) := by
              rw [List.map_append, List.length_append]
              have e : Value.string (s.extract a k) = strV ((s.data.toList.drop a).take (k - a)) := by
                show Value.string _ = Value.string _
                rw [byteArray_ext (s.extract a k) _ (Lib.extract_data s a k)]
              rw [e] at hown'
              exact hown'
            have HO := Lib.hid ho1
            clear hown hown' hgrow ho1 hbel
            go_wp2_with fail
            go_roundw
            case rel => exact ⟨k + 1, by omega, by go_num, none, _, rfl, by rw [List.length_append, List.length_singleton]; omega, by simp, HN.out, HO.out, hb1⟩
            case measure => simp [intOf]; omega
          · have hbf : endsW s k = false := by simpa using hb
            have hlt : k < s.size := by
              apply Classical.byContradiction
              intro h
              rw [endsW, dif_neg h] at hbf
              cases hbf
            have hnext : wordsL s.data.toList = acc ++ wordsGo (curOf s (some a) (k + 1)) (s.data.toList.drop (k + 1)) := by
              rw [HE.out, words_skip s (some a) k 1 HST.out (by omega) (by omega) (fun j hj => by
                obtain rfl : j = 0 := by omega
                refine ⟨hlt, ?_⟩
                rw [endsW, dif_pos hlt] at hbf
                exact hbf)]
              rfl
            have HN := Lib.hid hnext
            clear hnext
            rw [hbf]
            clear hb hbf
            simp only [fromV]
            go_wp2_with fail
            go_roundw
            case rel => exact ⟨k + 1, by omega, by go_num, some a, acc, rfl, by omega, by simp; omega, .inl ⟨by omega, HN.out⟩, hown, hbel⟩
            case measure => simp [intOf]; omega
    · have hend : wordsL s.data.toList = acc := by
        rcases hor with ⟨h, _⟩ | ⟨_, h⟩
        · omega
        · exact h
      have HEnd := Lib.hid hend
      clear hend hor hst
      go_wp2_with fail
      go_ret
      exact ⟨_, rfl, by rw [HEnd.out]; exact hown, hbel⟩
end Go.Proofs.YtcflmpnkmchdoaaDoor
