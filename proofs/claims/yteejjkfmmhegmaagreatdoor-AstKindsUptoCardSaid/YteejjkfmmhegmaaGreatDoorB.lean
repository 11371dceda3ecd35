/- Contracts of num.plain, num.end. Conditions: at most 2^24 bytes; the variable MaxLen of internal/bytealg holds a number. -/
import Derived.Test.YteejjkfmmhegmaaGreatDoorA
import Derived.Lib.SplitLaws
import Derived.Lib.Replace
import Derived.Lib.IndexBytes
import Derived.Maps.AppendAt
import Derived.Laws.Cover4
import Derived.Laws.IdiomStrings
import Derived.Laws.BytesArg
namespace Go.Proofs.YteejjkfmmhegmaaGreatDoor
open Go.RowKit

/-- the variable holds a number. -/
def MaxAt (w : World) : Prop := ∃ m : Int, w.cell? ⟨4, 0, none⟩ = some (.int .i64 m)
theorem MaxAt.below {w w' : World} (h : MaxAt w) (hb : Below w.heap.size w w') : MaxAt w' := by
  obtain ⟨m, hm⟩ := h
  exact ⟨m, by rw [hb.cell (World.block_lt_of_cell? _ _ hm)]; exact hm⟩
/-- without _ . -/
def plainL (l : List UInt8) : List UInt8 := l.filter (· ≠ 95)
theorem replaceK_one (c : UInt8) : ∀ s : List UInt8, Lib.replaceK [c] [] (s.count c) s = s.filter (· ≠ c)
  | [] => rfl
  | b :: l => by
    have ih := replaceK_one c l
    by_cases h : b = c
    · subst h
      rw [List.count_cons_self, Lib.replaceK_hit _ _ _ _ 0 (by rw [Lib.index_one]; simp [Lib.indexByte])]
      simp only [List.take_zero, List.nil_append, List.length_singleton, Nat.zero_add, List.drop_succ_cons, List.drop_zero]
      rw [ih]
      simp
    · have hc : (b :: l).count c = l.count c := by rw [List.count_cons]; simp [h]
      rw [hc, List.filter_cons, if_pos (by simp [h]), ← ih]
      cases hk : l.count c with
      | zero => rfl
      | succ k =>
        obtain ⟨i, hi⟩ := Lib.index_of_count (s := l) (old := [c]) (by rw [Lib.count_one, hk]; omega)
        have hi2 : Lib.index (b :: l) [c] = ((i + 1 : Nat) : Int) := by
          rw [Lib.index_one] at hi ⊢
          rw [Lib.indexByte, if_neg (by simp [h]), hi, if_neg (fun e => by have := beq_iff_eq.1 e; omega)]
          omega
        rw [Lib.replaceK_hit _ _ _ _ _ hi2, Lib.replaceK_hit _ _ _ _ _ hi]
        rfl
theorem replaceAll_plain (s : List UInt8) : Lib.replaceAll s [95] [] = plainL s := by
  unfold Lib.replaceAll Lib.replace Lib.replaceNum
  rw [if_neg (by decide), if_pos (.inl (by decide)), Lib.count_one]
  exact replaceK_one 95 s
theorem plainL_len (l : List UInt8) : (plainL l).length ≤ l.length := List.length_filter_le _ _
theorem plain_any (s : ByteArray) (w : World) (hs : s.size ≤ 16777216) (hM : MaxAt w) :
    Calls Tryz.prog 153 #[.string s] w fun e w' => e = .returned (.string ⟨(plainL s.data.toList).toArray⟩) ∧ Below w.heap.size w w' := by
  obtain ⟨m, hm⟩ := hM
  have h := Tryz.strings_ReplaceAll s ⟨#[95]⟩ ⟨#[]⟩ m w (by omega) hm (by decide) (by
    have e : (ByteArray.mk #[]).size = 0 := rfl
    rw [e]
    omega)
  rw [show (ByteArray.mk #[95]).data.toList = [95] from rfl, show (ByteArray.mk #[]).data.toList = [] from rfl, replaceAll_plain] at h
  have H := Lib.hid h
  clear h hm
  go_enter Tryz.func153, Tryz.ntmps153
  go_wp2_with (go_at_call 169; refine H.out.mono ?_; rintro e w' ⟨rfl, hb⟩)
  go_ret
  exact ⟨rfl, hb⟩
end Go.Proofs.YteejjkfmmhegmaaGreatDoor
