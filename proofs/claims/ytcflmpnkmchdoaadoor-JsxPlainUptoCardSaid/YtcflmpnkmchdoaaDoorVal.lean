/- The contract of uni.Valid: it answers no error just for valid UTF-8. Condition: the library's two tables lie as they are laid; at most 2^40 bytes. -/
import Derived.Test.YtcflmpnkmchdoaaDoorD
import Derived.Test.YtcflmpnkmchdoaaDoorF
import Derived.Test.YtcflmpnkmchdoaaDoorH
import Derived.Lib.ValidLaws
import Derived.Lib.TrimUEq
import Derived.Lib.MapLaws
namespace Go.Proofs.YtcflmpnkmchdoaaDoor
open Go.RowKit

/-- what Valid answers: 0: valid. -/
def validC (l : List UInt8) : Int := if Lib.validD l = true then 0 else 100
theorem validC_false {l : List UInt8} (h : Lib.validD l = false) : validC l = 100 := by unfold validC; rw [h]; rfl
theorem validC_true {l : List UInt8} (h : Lib.validD l = true) : validC l = 0 := by unfold validC; rw [h]; rfl
theorem decodeGo_extract (s : ByteArray) (i : Nat) (h : i < s.size) : Lib.decodeGo (s.extract i s.size) = Utf8.decode s i := by
  unfold Lib.decodeGo
  rw [if_neg (by rw [ByteArray.size_extract]; omega), ← Lib.decodeL_drop s i]
  unfold Lib.decodeL
  have := byteArray_ext (s.extract i s.size) (s.data.toList.drop i) (by
    rw [Lib.extract_data, List.take_of_length_le]
    rw [List.length_drop, ofl]
    exact Nat.le_refl _)
  rw [this]
theorem valid_step (s : ByteArray) (i : Nat) (h : i < s.size) : Lib.validD (s.data.toList.drop i) = if (Utf8.decode s i).1 = 65533 ∧ (Utf8.decode s i).2 = 1 then false else Lib.validD (s.data.toList.drop (i + (Utf8.decode s i).2)) := by
  rw [Lib.validD_step _ (by intro e; have := congrArg List.length e; rw [List.length_drop, ofl] at this; simp at this; omega), Lib.decodeL_drop, List.drop_drop]

set_option maxRecDepth 1000000 in
set_option maxHeartbeats 1000000 in
theorem valid_any (s : ByteArray) (w : World) (hs : s.size ≤ 1099511627776) (hT : Lib.Utf8Tabs 0 1 w) :
    Calls Tryd.prog 20 #[.string s] w fun e w' => (∃ i : Nat, e = .returned (.tuple #[.int .i64 i, .int .i64 (validC s.data.toList)])) ∧ Below w.heap.size w w' := by
  go_enter Tryd.func20, Tryd.ntmps20
  go_wp2_with fail
  go_loopw [4, 5, 6, 7] (fun _ _ _ _ wx => ∃ i : Nat, i ≤ s.size ∧ wx.heap[w.heap.size]? = some (.stringIter s i) ∧ Below w.heap.size w wx ∧ w.heap.size < wx.heap.size ∧ Lib.validD s.data.toList = Lib.validD (s.data.toList.drop i)) (fun _ _ _ _ wx => s.size - wx.iterPos w.heap.size)
  case atStart => exact ⟨0, by omega, World.iter_heap _ _ _, (Below.refl _ _).alloc (Nat.le_refl _) _, by show _ < (w.heap.push _).size; simp, by simp⟩
  case round =>
    obtain ⟨i, hi, hk, hb, hlt, hv⟩ := hrel
    by_cases hlts : i < s.size
    · have hnx := fun ty => Lib.run_next_any_at (P := Tryd.prog) wr _ s i ty hk hlts
      have hde := decodeGo_extract s i hlts
      have hvs := valid_step s i hlts
      have hn1 : 1 ≤ (Utf8.decode s i).2 := Lib.width_pos s i
      have hnl : (Utf8.decode s i).2 ≤ s.size - i := by
        have := Lib.decodeL_le (s.data.toList.drop i) (by intro e; have := congrArg List.length e; rw [List.length_drop, ofl] at this; simp at this; omega)
        rw [Lib.decodeL_drop, List.length_drop, ofl] at this
        exact this
      rw [hvs] at hv
      have hTc := Utf8Tabs_below hT hb
      obtain ⟨⟨c, n⟩, hcn⟩ : ∃ p, Utf8.decode s i = p := ⟨_, rfl⟩
      rw [hcn] at hnx hde hvs hv hn1 hnl
      simp only at hnx hde hvs hv hn1 hnl
      clear hcn hvs
      have hk2 := Lib.iterAt_heap wr _ s i (i + n) hk
      have hb2 : Below w.heap.size w (wr.iterAt w.heap.size s (i + n)) := Lib.below_iterAt hb (Nat.le_refl _) _ _
      have hl2 : w.heap.size < (wr.iterAt w.heap.size s (i + n)).heap.size := by rw [Lib.iterAt_size]; exact hlt
      have hT2 := Utf8Tabs_below hT hb2
      generalize wr.iterAt w.heap.size s (i + n) = w2 at *
      have HK := Lib.hid hk2
      have HKr := Lib.hid hk
      have HT2 := Lib.hid hT2
      have HDE := Lib.hid hde
      by_cases hc : c = 65533
      · subst hc
        have HD := Lib.hid (Tryd.utf8_DecodeRuneInString (s.extract i s.size) w2 hT2)
        rw [hde] at HD
        by_cases hn : n = 1
        · subst hn
          rw [if_pos ⟨rfl, rfl⟩] at hv
          have HV := Lib.hid hv
          clear hv hk hk2 hT2 hTc hde hb hT
          go_wp2_with (go_at_call 34; refine HD.out.mono ?_; rintro e w3 ⟨rfl, hb3⟩)
          go_ret2
          exact ⟨⟨i, by rw [validC_false HV.out]; rfl⟩, hb2.trans (hb3.mono (by omega))⟩
        · have hn' : ((n : Int) == 1) = false := by rw [beq_eq_false_iff_ne]; omega
          rw [if_neg (fun h => hn h.2)] at hv
          have HV := Lib.hid hv
          clear hv hk hk2 hT2 hTc hde hb hT hn
          go_wp2_with (go_at_call 34; refine HD.out.mono ?_; rintro e w3 ⟨rfl, hb3⟩)
          have hk3 : w3.heap[w.heap.size]? = some (.stringIter s (i + n)) := (hb3.block _ hl2).trans HK.out
          go_roundw
          case rel => exact ⟨i + n, by omega, hk3, hb2.trans (hb3.mono (by omega)), by have := hb3.size; omega, HV.out⟩
          case measure => simp [World.iterPos, hk3, HKr.out]; omega
      · have hc' : ((c : Int) == 65533) = false := by rw [beq_eq_false_iff_ne]; omega
        rw [if_neg (fun h => hc h.1)] at hv
        have HV := Lib.hid hv
        clear hv hk hk2 hT2 hTc hde hb hT hc
        go_wp2_with fail
        go_roundw
        case rel => exact ⟨i + n, by omega, HK.out, hb2, hl2, HV.out⟩
        case measure => simp [World.iterPos, HK.out, HKr.out]; omega
    · obtain rfl : i = s.size := by omega
      have hnx := fun ty => Lib.run_next_end_at (P := Tryd.prog) wr _ s s.size ty hk (by omega)
      have hve : Lib.validD s.data.toList = true := by
        rw [hv, List.drop_of_length_le (by rw [ofl]; exact Nat.le_refl _)]
        rfl
      have HV := Lib.hid hve
      clear hv hve
      go_wp2_with fail
      go_ret2
      exact ⟨⟨0, by rw [validC_true HV.out]; rfl⟩, hb⟩
end Go.Proofs.YtcflmpnkmchdoaaDoor
