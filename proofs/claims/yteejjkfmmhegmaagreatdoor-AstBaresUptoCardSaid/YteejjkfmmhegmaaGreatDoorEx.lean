/- Contracts of ast.ident, own, expression, one, Check at Idents in Parens. Condition: at most 2^22 nodes. -/
import Derived.Test.YteejjkfmmhegmaaGreatDoorOw
namespace Go.Proofs.YteejjkfmmhegmaaGreatDoor
open Go.RowKit

theorem ident_of (s : ByteArray) (v r : Bool) (w : World) (hs : s.size ≤ 16777216) (hv : nameOK s.data.toList = v) (hr : ∀ w, Calls Tryz.prog 69 #[.string s, .bool false] w fun e w' => e = .returned (.bool r) ∧ w = w') :
    Calls Tryz.prog 43 #[.string s] w fun e w' => e = .returned (.bool (v && !r)) ∧ Below w.heap.size w w' := by
  have HN := Lib.hid (wname_any s w hs)
  rw [hv] at HN
  have HR := Lib.hid hr
  clear hr hv hs
  cases v with
  | false =>
    go_enter Tryz.func43, Tryz.ntmps43
    go_wp2_with (go_at_call 46; refine HN.out.mono ?_; rintro e w2 ⟨rfl, hb2⟩)
    go_ret
    exact ⟨rfl, hb2⟩
  | true =>
    cases r with
    | false =>
      go_enter Tryz.func43, Tryz.ntmps43
      go_wp2_with (first | (go_at_call 46; refine HN.out.mono ?_; rintro e w2 ⟨rfl, hb2⟩) | (go_at_call 69; refine (HR.out _).mono ?_; rintro e w2 ⟨rfl, rfl⟩))
      go_ret
      exact ⟨rfl, hb2⟩
    | true =>
      go_enter Tryz.func43, Tryz.ntmps43
      go_wp2_with (first | (go_at_call 46; refine HN.out.mono ?_; rintro e w2 ⟨rfl, hb2⟩) | (go_at_call 69; refine (HR.out _).mono ?_; rintro e w2 ⟨rfl, rfl⟩))
      go_ret
      exact ⟨rfl, hb2⟩
set_option maxRecDepth 100000 in
set_option maxHeartbeats 2000000 in
theorem own_ident (n : Nd) (g o L B : Nat) (w : World) (v : Bool) (hn : NdC w L B n g o) (hB : B ≤ w.heap.size) (hk : n.kind = 1) (h0 : n.kids.length = 0)
    (hid : ∀ w, Calls Tryz.prog 43 #[.string n.text] w fun e w' => e = .returned (.bool v) ∧ Below w.heap.size w w') :
    Calls Tryz.prog 36 #[.pointer (some ⟨g, o, none⟩)] w fun e w' => e = .returned (.bool v) ∧ Below w.heap.size w w' := by
  obtain ⟨b, cap, hg, c0, c1, c2, c3, c4, hc, hr⟩ := hn.facts hB
  have HK := Lib.hid hk
  have HN := Lib.hid hn
  have HI := Lib.hid hid
  have HD := Lib.hid (decide_eq_true h0)
  clear hn hr hid hk h0 hc
  go_enter Tryz.func36, Tryz.ntmps36
  go_upto_region 3 with (go_at_call 34; refine (kind_any _ _ _ _).mono ?_; rintro e w2 ⟨rfl, rfl⟩)
  have hb4 : Below w.heap.size w ((((w.alloc (.cells #[.int .i64 58] 3)).alloc (.cells #[.slice (some ⟨w.heap.size, 0, none⟩) 1 1] 39)).alloc (.cells #[.int .i64 1] 3)).alloc (.cells #[.slice (some ⟨w.heap.size + 1 + 1, 0, none⟩) 1 1] 39)) := (((alloc_bel w _).alloc (by simp) _).alloc (by simp <;> omega) _).alloc (by simp <;> omega) _
  generalize ((((w.alloc (.cells #[.int .i64 58] 3)).alloc (.cells #[.slice (some ⟨w.heap.size, 0, none⟩) 1 1] 39)).alloc (.cells #[.int .i64 1] 3)).alloc (.cells #[.slice (some ⟨w.heap.size + 1 + 1, 0, none⟩) 1 1] 39)) = w4 at *
  have HB4 := Lib.hid hb4
  have hn4 := NdC_bel HN.out (hb4.mono hB)
  have hB4 := Nat.le_trans hB hb4.size
  clear c0 c1 c2 c3 c4 hb4 hg
  obtain ⟨b2, cap2, hg, c0, c1, c2, c3, c4, _, _⟩ := hn4.facts hB4
  rw [HK.out] at c0
  clear hn4
  go_wp2_with fail
  refine (HI.out _).mono ?_
  rintro e w5 ⟨rfl, hb5⟩
  have HB5 := Lib.hid (bel_next HB4.out hb5)
  have HKN := Lib.hid (kids_none n g o L B w5 (NdC_bel HN.out (HB5.out.mono hB)) (Nat.le_trans hB HB5.out.size))
  rw [HD.out] at HKN
  clear hb5 c0 c1 c2 c3 c4 hg
  cases v with
  | true =>
    go_wp2_with (go_at_call 44; refine HKN.out.mono ?_; rintro e w6 ⟨rfl, rfl⟩)
    go_ret
    exact ⟨rfl, HB5.out⟩
  | false =>
    go_wp2_with fail
    go_ret
    exact ⟨rfl, HB5.out⟩
end Go.Proofs.YteejjkfmmhegmaaGreatDoor
