/- Contract of platenlaw5's only: is a text one token of a kind, for a goal? Conditions: the library's tables; at most 2^24 bytes. -/
import Derived.Test.YtdkkfbakggbaeaaDoorLR
import Derived.Test.YtdkkfbakggbaeaaDoorLS
namespace Go.Proofs.YtdkkfbakggbaeaaDoor
open Go.RowKit

def onlyB (s : ByteArray) (goal kind : Int) : Bool := match nxt s 0 goal with
  | .fine k q n _ cs => decide (k = kind ∧ q = 0 ∧ n = s.size ∧ cs = [])
  | .bad _ _ => false
theorem toList_ne {a c : ByteArray} (h : a.size ≠ c.size) : (a.toList == c.toList) = false := by
  rw [beq_eq_false_iff_ne]
  intro e
  rw [Lib.toList_data, Lib.toList_data] at e
  have := congrArg List.length e
  rw [ofl, ofl] at this
  exact h this
set_option maxRecDepth 20000 in
set_option maxHeartbeats 2000000 in
theorem only_any (s : ByteArray) (goal kind : Int) (w : World) (hs : s.size ≤ 16777216) (hX : Lx w) :
    Calls Tryd.prog 17 #[.string s, .int .i64 goal, .int .i64 kind] w fun e w' => e = .returned (.bool (onlyB s goal kind)) ∧ Below w.heap.size w w' := by
  have hN := Next_any s 0 goal w hs (Nat.zero_le _) hX 0 rfl
  have hin := nxt_in s 0 goal (Nat.zero_le _)
  have hnz := nxt_nz s 0 goal (Nat.zero_le _)
  obtain ⟨B, hB⟩ : ∃ B, onlyB s goal kind = B := ⟨_, rfl⟩
  rw [hB]
  unfold onlyB at hB
  cases hO : nxt s 0 goal with
  | bad place code =>
    rw [hO] at hN hnz hB
    subst hB
    simp only [NxPost, Tk.val, Tk.cells, Tk.zero] at hN
    simp only [NxO.Nz] at hnz
    have bc : (code == 0) = false := by rw [beq_eq_false_iff_ne]; exact hnz
    have HN := Lib.hid hN
    clear hN hin hnz hX hO
    go_enter Tryd.func17, Tryd.ntmps17
    go_upto_region 2 with (go_at_call 14; refine HN.out.mono ?_; rintro e w2 ⟨rfl, hb2⟩)
    have hb := hb2.alloc hb2.size (.cells #[.int .i64 0, .string ⟨#[]⟩, .int .i64 0, .int .i64 0, .bool false] 24)
    generalize World.alloc w2 _ = w3 at *
    go_wp2_with (go_at_call 15; refine (lnum_any _ _).mono ?_; rintro e w' ⟨rfl, rfl⟩)
    go_ret
    exact ⟨rfl, hb⟩
  | fine k q n line cs =>
    rw [hO] at hN hin hB
    simp only at hB
    have HB := Lib.hid hB
    clear hB
    simp only [NxPost, Tk.val, Tk.cells] at hN
    obtain ⟨_, hqn, _, _⟩ := hin
    have HN := Lib.hid hN
    clear hN hnz hX hO
    go_enter Tryd.func17, Tryd.ntmps17
    go_upto_region 2 with (go_at_call 14; refine HN.out.mono ?_; rintro e w2 ⟨v, rfl, hown, hb2⟩)
    obtain ⟨vp, cap, rfl⟩ := hown.form
    have hb := hb2.alloc hb2.size (.cells #[.int .i64 k, .string (s.extract q (q + n)), .int .i64 (q : Int), .int .i64 ((q : Int) + (n : Int)), .bool line] 24)
    have hk : TkAt (w2.alloc (.cells #[.int .i64 k, .string (s.extract q (q + n)), .int .i64 (q : Int), .int .i64 ((q : Int) + (n : Int)), .bool line] 24)) w2.heap.size ⟨k, s.extract q (q + n), q, (q : Int) + (n : Int), line⟩ := heap_alloc_new _ _
    generalize World.alloc w2 _ = w3 at *
    generalize w2.heap.size = g at *
    clear hown hb2 HN
    obtain ⟨d0, d1, d2, d3, d4, g0, g1, g2, g3, g4⟩ := TkAt.facts hk
    by_cases hkk : k = kind
    · have bk : (k == kind) = true := by rw [beq_iff_eq]; exact hkk
      by_cases hq : q = 0 ∧ n = s.size
      · obtain ⟨rfl, rfl⟩ := hq
        have hx : s.extract 0 (0 + s.size) = s := by rw [Nat.zero_add]; exact ByteArray.extract_zero_size
        rw [hx] at d1
        by_cases hc : cs.length = 0
        · have HV := Lib.hid (show B = true by rw [← HB.out]; exact decide_eq_true ⟨hkk, rfl, rfl, List.length_eq_zero_iff.1 hc⟩)
          clear hkk hx HB
          go_wp2_with (go_at_call 15; refine (lnum_any _ _).mono ?_; rintro e w' ⟨rfl, rfl⟩)
          go_ret
          exact ⟨by rw [HV.out]; rfl, hb⟩
        · have HV := Lib.hid (show B = false by rw [← HB.out]; exact decide_eq_false (fun h => hc (by rw [h.2.2.2]; rfl)))
          clear HB
          have bc : ((cs.length : Int) == 0) = false := by rw [beq_eq_false_iff_ne]; omega
          clear hkk hx hc
          go_wp2_with (go_at_call 15; refine (lnum_any _ _).mono ?_; rintro e w' ⟨rfl, rfl⟩)
          go_ret
          exact ⟨by rw [HV.out]; rfl, hb⟩
      · have HV := Lib.hid (show B = false by rw [← HB.out]; exact decide_eq_false (fun h => hq ⟨h.2.1, h.2.2.1⟩))
        have hne : ((s.extract q (q + n)).toList == s.toList) = false := toList_ne (by rw [ByteArray.size_extract]; omega)
        clear hkk hq
        go_wp2_with (go_at_call 15; refine (lnum_any _ _).mono ?_; rintro e w' ⟨rfl, rfl⟩)
        go_ret
        refine ⟨?_, hb⟩
        rw [HV.out]
        rfl
    · have bk : (k == kind) = false := by rw [beq_eq_false_iff_ne]; exact hkk
      have HV := Lib.hid (show B = false by rw [← HB.out]; exact decide_eq_false (fun h => hkk h.1))
      clear hkk
      go_wp2_with (go_at_call 15; refine (lnum_any _ _).mono ?_; rintro e w' ⟨rfl, rfl⟩)
      go_ret
      refine ⟨?_, hb⟩
      rw [HV.out]
      rfl
end Go.Proofs.YtdkkfbakggbaeaaDoor
