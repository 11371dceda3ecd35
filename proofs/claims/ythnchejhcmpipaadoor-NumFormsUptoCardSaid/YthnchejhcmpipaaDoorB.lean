/- Contracts of num.plain, num.end, num.text, num.small. Conditions: at most 2^24 bytes; the variable MaxLen of internal/bytealg holds a number. -/
import Derived.Test.YthnchejhcmpipaaDoorA
import Derived.Lib.SplitLaws
import Derived.Lib.Replace
import Derived.Lib.IndexBytes
import Derived.Maps.AppendAt
import Derived.Laws.Cover4
import Derived.Laws.IdiomStrings
import Derived.Laws.BytesArg
namespace Go.Proofs.YthnchejhcmpipaaDoor
open Go.RowKit

/-- the variable holds a number. -/
def MaxAt (w : World) : Prop := ∃ m : Int, w.cell? ⟨3, 0, none⟩ = some (.int .i64 m)
theorem MaxAt.below {w w' : World} (h : MaxAt w) (hb : Below w.heap.size w w') : MaxAt w' := by
  obtain ⟨m, hm⟩ := h
  exact ⟨m, by rw [hb.cell (World.block_lt_of_cell? _ _ hm)]; exact hm⟩
/-- without _ . -/
def plainL (l : List UInt8) : List UInt8 := l.filter (· ≠ 95)
theorem replaceK_one (c : UInt8) : ∀ s : List UInt8, Lib.replaceK [c] [] (s.count c) s = s.filter (· ≠ c)
  | [] => rfl
  | b :: l => by
    have ih := replaceK_one c l
    by_cases h : b = c
    · subst h
      rw [List.count_cons_self, Lib.replaceK_hit _ _ _ _ 0 (by rw [Lib.index_one]; simp [Lib.indexByte])]
      simp only [List.take_zero, List.nil_append, List.length_singleton, Nat.zero_add, List.drop_succ_cons, List.drop_zero]
      rw [ih]
      simp
    · have hc : (b :: l).count c = l.count c := by rw [List.count_cons]; simp [h]
      rw [hc, List.filter_cons, if_pos (by simp [h]), ← ih]
      cases hk : l.count c with
      | zero => rfl
      | succ k =>
        obtain ⟨i, hi⟩ := Lib.index_of_count (s := l) (old := [c]) (by rw [Lib.count_one, hk]; omega)
        have hi2 : Lib.index (b :: l) [c] = ((i + 1 : Nat) : Int) := by
          rw [Lib.index_one] at hi ⊢
          rw [Lib.indexByte, if_neg (by simp [h]), hi, if_neg (fun e => by have := beq_iff_eq.1 e; omega)]
          omega
        rw [Lib.replaceK_hit _ _ _ _ _ hi2, Lib.replaceK_hit _ _ _ _ _ hi]
        rfl
theorem replaceAll_plain (s : List UInt8) : Lib.replaceAll s [95] [] = plainL s := by
  unfold Lib.replaceAll Lib.replace Lib.replaceNum
  rw [if_neg (by decide), if_pos (.inl (by decide)), Lib.count_one]
  exact replaceK_one 95 s
theorem plainL_len (l : List UInt8) : (plainL l).length ≤ l.length := List.length_filter_le _ _
theorem plain_any (s : ByteArray) (w : World) (hs : s.size ≤ 16777216) (hM : MaxAt w) :
    Calls Tryd.prog 21 #[.string s] w fun e w' => e = .returned (.string ⟨(plainL s.data.toList).toArray⟩) ∧ Below w.heap.size w w' := by
  obtain ⟨m, hm⟩ := hM
  have h := Tryd.strings_ReplaceAll s ⟨#[95]⟩ ⟨#[]⟩ m w (by omega) hm (by decide) (by
    have e : (ByteArray.mk #[]).size = 0 := rfl
    rw [e]
    omega)
  rw [show (ByteArray.mk #[95]).data.toList = [95] from rfl, show (ByteArray.mk #[]).data.toList = [] from rfl, replaceAll_plain] at h
  have H := Lib.hid h
  clear h hm
  go_enter Tryd.func21, Tryd.ntmps21
  go_wp2_with (go_at_call 43; refine H.out.mono ?_; rintro e w' ⟨rfl, hb⟩)
  go_ret
  exact ⟨rfl, hb⟩
/-- end. -/
def endB (big : Bool) : ByteArray := if big then ⟨#[110]⟩ else ⟨#[]⟩
theorem end_any (b : Nat) (big : Bool) (w : World) (h : w.cell? ⟨b, 7, none⟩ = some (.bool big)) :
    Calls Tryd.prog 22 #[.pointer (some ⟨b, 0, none⟩)] w fun e w' => e = .returned (.string (endB big)) ∧ w = w' := by
  cases big
  all_goals
    go_enter Tryd.func22, Tryd.ntmps22
    go_wp2
    go_ret
    exact ⟨rfl, rfl⟩
/-- a digit's byte. -/
def digB (n : Nat) : UInt8 := UInt8.ofNat (48 + n)
theorem digB_toNat {n : Nat} (h : n < 10) : (digB n).toNat = 48 + n := by
  show (UInt8.ofNat (48 + n)).toNat = _
  rw [UInt8.toNat_ofNat']
  omega
/-- a number's digits. -/
def decL (n : Nat) : List UInt8 := if n < 10 then [digB n] else decL (n / 10) ++ [digB (n % 10)]
theorem decL_small {n : Nat} (h : n < 10) : decL n = [digB n] := by rw [decL, if_pos h]
theorem decL_big {n : Nat} (h : ¬ n < 10) : decL n = decL (n / 10) ++ decL (n % 10) := by rw [decL, if_neg h, decL_small (Nat.mod_lt _ (by decide))]
theorem decL_len : ∀ n : Nat, (decL n).length ≤ n + 1 := by
  intro n
  induction n using Nat.strongRecOn with
  | ind n ih =>
    rw [decL]
    split
    · simp
    · have := ih (n / 10) (by omega)
      rw [List.length_append, List.length_singleton]
      omega
theorem string_own {w : World} {B : Nat} {v : Value} {l : List UInt8} (h : w.ownsRow B 5 1 v l.length (Lib.byteCells l)) : (convert 53 9 v).run Tryd.prog w = .ok (.string ⟨l.toArray⟩) w := by
  have hb := h
  rcases h.2 with ⟨rfl, h0⟩ | ⟨g, cap, cur, rfl, _⟩
  · rw [List.length_eq_zero_iff.1 h0]
    exact run_convert_bytes_nil w 53 5 (by kernel_rfl) (by kernel_rfl) 0 0 9 (by kernel_rfl)
  · refine run_convert_bytes_back w 53 9 5 ⟨g, 0, none⟩ cap l (by kernel_rfl) (by kernel_rfl) (by kernel_rfl) fun j hj => ?_
    refine hb.cells (g := g) rfl j _ ?_
    simp [Lib.byteCells, List.getElem?_eq_getElem hj]
theorem dig_string (w : World) (n : Nat) (h : n < 10) : (convert 53 9 (.slice (some ⟨w.heap.size, 0, none⟩) 1 1)).run Tryd.prog (w.alloc (.cells #[.int .u8 (48 + (n : Int))] 5)) = .ok (.string ⟨#[digB n]⟩) (w.alloc (.cells #[.int .u8 (48 + (n : Int))] 5)) := by
  have e : (digB n).toNat = 48 + n := digB_toNat h
  have ho := World.ownsRow_lit (base := w.heap.size) (e := 5) (size := 1) w #[.int .u8 (48 + (n : Int))] 1 (Nat.le_refl _) (by decide) rfl
  refine string_own (l := [digB n]) (B := w.heap.size) ?_
  have e2 : Lib.byteCells [digB n] = [Value.int .u8 (48 + (n : Int))] := by
    show [Value.int .u8 ((digB n).toNat : Int)] = _
    rw [e]
    rfl
  rw [e2]
  exact ho
set_option maxRecDepth 20000 in
set_option maxHeartbeats 800000 in
theorem text_gen : ∀ (n : Nat), n ≤ 16000000 → ∀ (w : World) (z : Int), z = (n : Int) → Calls Tryd.prog 48 #[.int .i64 z] w fun e w' => e = .returned (.string ⟨(decL n).toArray⟩) ∧ Below w.heap.size w w' := by
  intro n
  induction n using Nat.strongRecOn with
  | ind n ih =>
    intro hn w z hz
    subst hz
    by_cases h10 : n < 10
    · have hcv := dig_string w n h10
      have hd := decL_small h10
      rw [hd]
      clear ih hd
      go_enter Tryd.func48, Tryd.ntmps48
      go_wp2_with fail
      go_ret
      exact ⟨rfl, (Below.refl _ _).alloc (Nat.le_refl _) _⟩
    · have hd := decL_big h10
      have h1 := ih (n / 10) (by omega) (by omega)
      have h2 := ih (n % 10) (by omega) (by omega)
      have l1 : (decL (n / 10)).length ≤ 16000001 := by have := decL_len (n / 10); omega
      have l2 : (decL (n % 10)).length ≤ 16000001 := by have := decL_len (n % 10); omega
      have H1 := Lib.hid h1
      have H2 := Lib.hid h2
      have HD := Lib.hid hd
      clear ih hd h1 h2
      have hs : ∀ a b : List UInt8, (⟨a.toArray⟩ : ByteArray) ++ ⟨b.toArray⟩ = ⟨(a ++ b).toArray⟩ := fun a b => (byteArray_ext _ _ (by simp)).symm
      have HS := Lib.hid hs
      clear hs
      go_enter Tryd.func48, Tryd.ntmps48
      go_wp2_with (first | (go_at_call 48; refine (H1.out _ _ (by omega)).mono ?_; rintro e w1 ⟨rfl, hb1⟩) | (go_at_call 48; refine (H2.out _ _ (by omega)).mono ?_; rintro e w2 ⟨rfl, hb2⟩))
      go_ret
      refine ⟨?_, bel_next hb1 hb2⟩
      rw [HD.out, ← HS.out]
      rfl
end Go.Proofs.YthnchejhcmpipaaDoor
