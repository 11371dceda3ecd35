/- Rows of bytes that may be written, and the plain laws of adding a small number to digits. No condition. -/
import Derived.Test.YthnchejhcmpipaaDoorF
import Derived.Lib.ConvBytes
namespace Go.Proofs.YthnchejhcmpipaaDoor
open Go.RowKit

/-- the bytes l lie in block g and may be written. -/
structure BRow (w : World) (B g : Nat) (l : List UInt8) : Prop where
  cell : ∀ j (h : j < l.length), w.cell? ⟨g, j, none⟩ = some (.int .u8 (l[j].toNat : Int))
  fz : ∀ j, j < l.length → w.frozen? ⟨g, j, none⟩ = false
  ge : B ≤ g
theorem BRow.of_own {w : World} {B g n cap : Nat} {l : List UInt8} (h : w.ownsRow B 5 1 (.slice (some ⟨g, 0, none⟩) n cap) n (Lib.byteCells l)) (hn : n = l.length) : BRow w B g l := by
  subst hn
  refine ⟨fun j hj => ?_, fun j _ => h.frozenAt j, ?_⟩
  · rw [h.cellAt j (by omega)]
    simp [Lib.byteCells, List.getElem?_eq_getElem hj]
  · rcases h.2 with ⟨e, _⟩ | ⟨g', c', cur, e, hb, _⟩
    · cases e
    · cases e; exact hb
theorem bytes_below (w : World) (s : ByteArray) : Below w.heap.size w (Lib.bytesWorld w 5 s) :=
  ⟨rfl, rfl, rfl, by rw [Lib.bytesWorld_size]; omega, fun j hj => Lib.bytesWorld_at_old w _ s j hj⟩
theorem brow_new (w : World) (s : ByteArray) : BRow (Lib.bytesWorld w 5 s) w.heap.size w.heap.size s.data.toList := by
  refine ⟨fun j hj => ?_, fun j hj => ?_, Nat.le_refl _⟩
  · rw [Lib.bytesWorld_cell w _ s j (by rwa [ofl] at hj), List.getD_eq_getElem?_getD, List.getElem?_eq_getElem hj]
    rfl
  · have h := Lib.bytesWorld_at_new w 5 s
    unfold World.frozen?
    simp only [h]
    have : s.size ≤ (Lib.bytesCells w 5 s).size := by
      unfold Lib.bytesCells
      rw [Array.size_append, Array.size_map]
      exact Nat.le_add_right _ _
    rw [ofl] at hj
    simp only [Bool.and_eq_false_iff, decide_eq_false_iff_not]
    exact .inl (by omega)

/-- digits under way: hi is as it was, lo is reckoned, m is carried. -/
structure AddR (p b : Nat) (D hi lo : List UInt8) (m : Nat) : Prop where
  val : valN hi * 10 ^ lo.length + m * 10 ^ lo.length + valN lo = p + b
  pre : ∃ t, D = hi ++ t
  dig : allDig lo
  lead : hi = [] → lo ≠ [] ∧ (0 < m ∨ lo.head? ≠ some 48)
  len : hi ≠ [] → hi.length + lo.length = D.length
theorem addR_start (D : List UInt8) (b : Nat) (hD : D ≠ []) : AddR (valN D) b D D [] b :=
  ⟨by simp [valN, valGo_nil], ⟨[], by simp⟩, fun _ h => (by cases h), fun h => absurd h hD, fun _ => by simp⟩
theorem digB_dig {n : Nat} (h : n < 10) : 48 ≤ (digB n).toNat ∧ (digB n).toNat ≤ 57 := by rw [digB_toNat h]; omega
theorem digB_48 {n : Nat} (h : n < 10) (h0 : 0 < n) : digB n ≠ 48 := fun e => by
  have := congrArg UInt8.toNat e
  rw [digB_toNat h] at this
  have e48 : (48 : UInt8).toNat = 48 := rfl
  omega
theorem addR_in {p b m : Nat} {D hi lo : List UInt8} {c : UInt8} (h : AddR p b D (hi ++ [c]) lo m) (hm : 0 < m) : AddR p b D hi (digB ((m + (c.toNat - 48)) % 10) :: lo) ((m + (c.toNat - 48)) / 10) := by
  have hlt : (m + (c.toNat - 48)) % 10 < 10 := Nat.mod_lt _ (by decide)
  have hdm := Nat.div_add_mod (m + (c.toNat - 48)) 10
  generalize hq : (m + (c.toNat - 48)) / 10 = q at *
  generalize hr : (m + (c.toNat - 48)) % 10 = r at *
  refine ⟨?_, ?_, ?_, fun _ => ⟨by simp, ?_⟩, fun _ => by have := h.len (by simp); simp at this ⊢; omega⟩
  · rw [← h.val, valN_cons, valN_snoc, List.length_cons, digB_toNat hlt, Nat.pow_succ]
    have e1 : valN hi * (10 ^ lo.length * 10) + q * (10 ^ lo.length * 10) + ((48 + r - 48) * 10 ^ lo.length + valN lo) = (10 * valN hi + (10 * q + r)) * 10 ^ lo.length + valN lo := by
      rw [show 48 + r - 48 = r by omega]
      simp only [Nat.add_mul]
      have : ∀ x k : Nat, x * (k * 10) = 10 * x * k := fun x k => by rw [Nat.mul_comm k 10, ← Nat.mul_assoc, Nat.mul_comm x 10]
      rw [this, this]
      omega
    rw [e1, hdm]
    simp only [Nat.add_mul]
    omega
  · obtain ⟨t, ht⟩ := h.pre
    exact ⟨c :: t, by rw [ht]; simp⟩
  · intro d hd
    rcases List.mem_cons.1 hd with rfl | hd
    · exact digB_dig hlt
    · exact h.dig d hd
  · by_cases hq0 : 0 < q
    · exact .inl hq0
    · exact .inr (by simp only [List.head?_cons, ne_eq, Option.some.injEq]; exact digB_48 hlt (by omega))
theorem addR_out {p b m : Nat} {D lo : List UInt8} (h : AddR p b D [] lo m) (hm : 0 < m) : AddR p b D [] (digB (m % 10) :: lo) (m / 10) := by
  have hlt : m % 10 < 10 := Nat.mod_lt _ (by decide)
  have hdm := Nat.div_add_mod m 10
  generalize hq : m / 10 = q at *
  generalize hr : m % 10 = r at *
  refine ⟨?_, h.pre, ?_, fun _ => ⟨by simp, ?_⟩, fun e => absurd rfl e⟩
  · rw [← h.val, valN_cons, List.length_cons, digB_toNat hlt, Nat.pow_succ]
    have e1 : valN [] * (10 ^ lo.length * 10) + q * (10 ^ lo.length * 10) + ((48 + r - 48) * 10 ^ lo.length + valN lo) = (10 * q + r) * 10 ^ lo.length + valN lo := by
      rw [show 48 + r - 48 = r by omega, show valN [] = 0 from valGo_nil 0]
      simp only [Nat.add_mul]
      have : ∀ x k : Nat, x * (k * 10) = 10 * x * k := fun x k => by rw [Nat.mul_comm k 10, ← Nat.mul_assoc, Nat.mul_comm x 10]
      rw [this, this]
      omega
    rw [e1, hdm, show valN [] = 0 from valGo_nil 0]
    omega
  · intro d hd
    rcases List.mem_cons.1 hd with rfl | hd
    · exact digB_dig hlt
    · exact h.dig d hd
  · by_cases hq0 : 0 < q
    · exact .inl hq0
    · exact .inr (by simp only [List.head?_cons, ne_eq, Option.some.injEq]; exact digB_48 hlt (by omega))
theorem addR_done {b : Nat} {D hi lo : List UInt8} (h : AddR (valN D) b D hi lo 0) (hD : canonD D) : decL (valN D + b) = hi ++ lo := by
  have hv : valN (hi ++ lo) = valN D + b := by rw [valN_append, ← h.val]; omega
  rw [← hv]
  refine decL_canon ?_
  obtain ⟨t, ht⟩ := h.pre
  have hall : allDig (hi ++ lo) := fun c hc => by
    rcases List.mem_append.1 hc with hc | hc
    · exact hD.1 c (by rw [ht]; simp [hc])
    · exact h.dig c hc
  cases hi with
  | nil =>
    obtain ⟨h0, h1⟩ := h.lead rfl
    refine ⟨hall, by simpa using h0, .inr ?_⟩
    rcases h1 with h1 | h1
    · omega
    · exact h1
  | cons x hi' =>
    refine ⟨hall, by simp, ?_⟩
    have hlen := h.len (by simp)
    rcases hD.2.2 with h1 | h1
    · left
      rw [List.length_append]
      omega
    · right
      rw [ht] at h1
      exact h1
end Go.Proofs.YthnchejhcmpipaaDoor
