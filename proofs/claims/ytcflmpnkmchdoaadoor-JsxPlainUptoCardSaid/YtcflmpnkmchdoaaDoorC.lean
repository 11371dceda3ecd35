/- The contract of jsx.entity. -/
import Derived.Test.YtcflmpnkmchdoaaDoorA
import Derived.Test.YtcflmpnkmchdoaaDoorB
namespace Go.Proofs.YtcflmpnkmchdoaaDoor
open Go.RowKit

theorem hp_len {l p : List UInt8} (h : Lib.hasPrefix l p = true) : p.length ≤ l.length := (List.isPrefixOf_iff_prefix.1 h).length_le
set_option maxHeartbeats 400000 in
theorem entity_hex (s : ByteArray) (w : World) (hs : s.size ≤ 16777216) (h1 : Lib.hasPrefix s.data.toList [35, 120] = true) :
    Calls Tryd.prog 21 #[.string s] w fun e w' => e = .returned (.tuple #[.int .i32 (num3 (numR 16 (s.data.toList.drop 2))).1, .bool (num3 (numR 16 (s.data.toList.drop 2))).2.1, .bool (num3 (numR 16 (s.data.toList.drop 2))).2.2]) ∧ w = w' := by
  have hz : 2 ≤ s.size := by have := hp_len h1; simp at this; omega
  have hN := number16 (s.extract 2 s.size) w (by simp; omega)
  rw [Lib.extract_to_end] at hN
  have hle := numR_le 16 (s.data.toList.drop 2)
  generalize numR 16 (s.data.toList.drop 2) = p at *
  obtain ⟨n, b⟩ := p
  simp only at hle
  have HN := Lib.hid hN
  clear hN
  go_enter Tryd.func21, Tryd.ntmps21
  go_wp2_with (first | (go_at_call 35; refine (Tryd.strings_HasPrefix _ _ _).mono ?_; rintro e w' ⟨rfl, rfl⟩) | (go_at_call 36; refine HN.out.mono ?_; rintro e w' ⟨rfl, rfl⟩) | fail)
  all_goals
    go_ret3
    refine ⟨?_, rfl⟩
    first | (simp [num3, *]; done) | (simp [num3, *]; omega) | (simp [num3, *]; rw [Bool.eq_iff_iff]; simp; omega)

set_option maxHeartbeats 400000 in
theorem entity_ten (s : ByteArray) (w : World) (hs : s.size ≤ 16777216) (h0 : Lib.hasPrefix s.data.toList [35, 120] = false) (h1 : Lib.hasPrefix s.data.toList [35] = true) :
    Calls Tryd.prog 21 #[.string s] w fun e w' => e = .returned (.tuple #[.int .i32 (num3 (numR 10 (s.data.toList.drop 1))).1, .bool (num3 (numR 10 (s.data.toList.drop 1))).2.1, .bool (num3 (numR 10 (s.data.toList.drop 1))).2.2]) ∧ w = w' := by
  have hz : 1 ≤ s.size := by have := hp_len h1; simp at this; omega
  have hN := number10 (s.extract 1 s.size) w (by simp; omega)
  rw [Lib.extract_to_end] at hN
  have hle := numR_le 10 (s.data.toList.drop 1)
  generalize numR 10 (s.data.toList.drop 1) = p at *
  obtain ⟨n, b⟩ := p
  simp only at hle
  have HN := Lib.hid hN
  clear hN
  go_enter Tryd.func21, Tryd.ntmps21
  go_wp2_with (first | (go_at_call 35; refine (Tryd.strings_HasPrefix _ _ _).mono ?_; rintro e w' ⟨rfl, rfl⟩) | (go_at_call 36; refine HN.out.mono ?_; rintro e w' ⟨rfl, rfl⟩) | fail)
  all_goals
    go_ret3
    refine ⟨?_, rfl⟩
    first | (simp [num3, *]; done) | (simp [num3, *]; omega) | (simp [num3, *]; rw [Bool.eq_iff_iff]; simp; omega)

set_option maxHeartbeats 400000 in
theorem entity_name (s : ByteArray) (w : World) (h0 : Lib.hasPrefix s.data.toList [35, 120] = false) (h1 : Lib.hasPrefix s.data.toList [35] = false) :
    Calls Tryd.prog 21 #[.string s] w fun e w' => e = .returned (.tuple #[.int .i32 (named s.data.toList), .bool (!(named s.data.toList == 0)), .bool true]) ∧ w = w' := by
  have hle := named_le s.data.toList
  go_enter Tryd.func21, Tryd.ntmps21
  go_wp2_with (first | (go_at_call 35; refine (Tryd.strings_HasPrefix _ _ _).mono ?_; rintro e w' ⟨rfl, rfl⟩) | (go_at_call 37; refine (named_any _ _).mono ?_; rintro e w' ⟨rfl, rfl⟩) | fail)
  go_ret3
  refine ⟨?_, rfl⟩
  have e : (((named s.data.toList : Nat) : Int) != 0) = !(named s.data.toList == 0) := by rw [Bool.eq_iff_iff]; simp
  rw [e]
  rfl

theorem entity_any (s : ByteArray) (w : World) (hs : s.size ≤ 16777216) :
    Calls Tryd.prog 21 #[.string s] w fun e w' => e = .returned (.tuple #[.int .i32 (entR s.data.toList).1, .bool (entR s.data.toList).2.1, .bool (entR s.data.toList).2.2]) ∧ w = w' := by
  cases h0 : Lib.hasPrefix s.data.toList [35, 120] with
  | true => rw [entR, if_pos h0]; exact entity_hex s w hs h0
  | false =>
    have h0' : ¬ Lib.hasPrefix s.data.toList [35, 120] = true := by rw [h0]; decide
    cases h1 : Lib.hasPrefix s.data.toList [35] with
    | true => rw [entR, if_neg h0', if_pos h1]; exact entity_ten s w hs h0 h1
    | false =>
      have h1' : ¬ Lib.hasPrefix s.data.toList [35] = true := by rw [h1]; decide
      rw [entR, if_neg h0', if_neg h1']; exact entity_name s w h0 h1
end Go.Proofs.YtcflmpnkmchdoaaDoor
