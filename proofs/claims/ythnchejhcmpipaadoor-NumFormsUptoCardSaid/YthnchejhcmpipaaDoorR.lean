/- Plain: printed numbers of another base are read again. No program in sight. -/
import Derived.Test.YthnchejhcmpipaaDoorQ
import Derived.Test.YthnchejhcmpipaaDoorO
namespace Go.Proofs.YthnchejhcmpipaaDoor

/-- nought and a letter, digits, and perhaps n: read in its parts. -/
theorem isOth_parts (t : ByteArray) (c1 : UInt8) (w : List UInt8) (big : Bool) (ht : t.data.toList = 48 :: c1 :: (w ++ (endB big).data.toList)) (hb : (c1.toNat ||| 32) = 120 ∨ (c1.toNat ||| 32) = 111 ∨ (c1.toNat ||| 32) = 98) (h65 : 65 ≤ c1.toNat) (hne : w ≠ []) : isOth t = true := by
  have hlen := congrArg List.length ht
  rw [ofl] at hlen
  simp only [List.length_cons, List.length_append] at hlen
  have hwl := List.length_pos_iff.2 hne
  have h2 : 2 < t.size := by omega
  have e0 := drop_cons t 0 (by omega)
  have e1 := drop_cons t 1 (by omega)
  rw [List.drop_zero] at e0
  rw [e0, e1] at ht
  have h0 : t[0] = 48 := (List.cons.inj ht).1
  have h1 : t[1] = c1 := (List.cons.inj (List.cons.inj ht).2).1
  unfold isOth
  rw [dif_pos h2, h0, h1]
  simp only [Bool.and_eq_true, Bool.or_eq_true, beq_iff_eq, decide_eq_true_eq]
  exact ⟨⟨trivial, by rcases hb with h | h | h <;> simp [h]⟩, h65⟩
theorem isD_110 {b : Nat} (hb : b = 120 ∨ b = 111 ∨ b = 98) : isD b 110 = false := by rcases hb with rfl | rfl | rfl <;> decide
theorem stops_end {b : Nat} (hb : b = 120 ∨ b = 111 ∨ b = 98) (big : Bool) : stops b (endB big).data.toList := by
  cases big with
  | false => exact stops_nil b
  | true => exact stops_cons (isD_110 hb) (by decide)
theorem runB_parts (b : Nat) (D : ByteArray) (w r : List UInt8) (hD : D.data.toList = w ++ r) (hw : runN b false w = w.length) (hr : stops b r) : (runB b D).1.data.toList = w ∧ (runB b D).2.data.toList = r := by
  have h := take_whole hw hr
  unfold runB
  simp only [extract_take, extract_drop, hD, h]
  exact ⟨List.take_left, List.drop_left⟩
theorem scanOth_parts (t : ByteArray) (c1 : UInt8) (w : List UInt8) (big : Bool) (ht : t.data.toList = 48 :: c1 :: (w ++ (endB big).data.toList)) (hb : (c1.toNat ||| 32) = 120 ∨ (c1.toNat ||| 32) = 111 ∨ (c1.toNat ||| 32) = 98) (hw : runN (c1.toNat ||| 32) false w = w.length) (hne : w ≠ []) :
    ∃ W : ByteArray, W.data.toList = w ∧ scanOth t = (⟨16, W, false, emp, false, false, emp, big⟩, emp, true) := by
  have hD : (t.extract 2 t.size).data.toList = w ++ (endB big).data.toList := by rw [extract_drop, ht]; rfl
  have h1 : t.data.toList[1]! = c1 := by rw [ht]; rfl
  obtain ⟨h2, h3⟩ := runB_parts (c1.toNat ||| 32) (t.extract 2 t.size) w _ hD hw (stops_end hb big)
  refine ⟨(runB (c1.toNat ||| 32) (t.extract 2 t.size)).1, h2, ?_⟩
  unfold scanOth
  simp only [h1, h3]
  have hp : Lib.hasPrefix (endB big).data.toList [110] = big := by cases big <;> rfl
  have hq : (⟨(Lib.trimPrefix (endB big).data.toList [110]).toArray⟩ : ByteArray) = emp := by cases big <;> rfl
  have hz : 0 < (runB (c1.toNat ||| 32) (t.extract 2 t.size)).1.size := by rw [← ofl, h2]; exact List.length_pos_iff.2 hne
  rw [hp, hq, decide_eq_true hz]
end Go.Proofs.YthnchejhcmpipaaDoor
