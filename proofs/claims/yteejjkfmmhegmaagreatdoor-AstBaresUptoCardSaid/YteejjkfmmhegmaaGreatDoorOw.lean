/- Contracts of ast's small functions: super, none, kind, kids, ident; of word.Reserved at some words. No condition of size. -/
import Derived.Test.YteejjkfmmhegmaaGreatDoorBc
import Derived.Test.YteejjkfmmhegmaaGreatDoorNm
namespace Go.Proofs.YteejjkfmmhegmaaGreatDoor
open Go.RowKit

theorem NdC.facts {w : World} {L B : Nat} {n : Nd} {g o : Nat} (h : NdC w L B n g o) (hB : B ≤ w.heap.size) : ∃ b cap, g < w.heap.size ∧ w.cell? ⟨g, o, none⟩ = some (.int .i64 n.kind) ∧ w.cell? ⟨g, o + 1, none⟩ = some (.string n.text) ∧
      w.cell? ⟨g, o + 2, none⟩ = some (.slice b n.kids.length cap) ∧ w.cell? ⟨g, o + 3, none⟩ = some (.int .i64 n.from') ∧ w.cell? ⟨g, o + 4, none⟩ = some (.int .i64 n.till) ∧ n.kids.length ≤ cap ∧ RowP w L B n.kids b 0 := by
  rw [NdC_eq] at h
  obtain ⟨b, cap, _, h3, c0, c1, c2, c3, c4, hc, hr⟩ := h
  exact ⟨b, cap, by omega, c0, c1, c2, c3, c4, hc, hr⟩
theorem reserved_RA (w : World) : Calls Tryz.prog 69 #[.string ⟨#[97]⟩, .bool false] w fun e w' => e = .returned (.bool false) ∧ w = w' := by
  go_enter Tryz.func69, Tryz.ntmps69
  go_wp2
  go_ret
  exact ⟨rfl, rfl⟩
theorem reserved_RLet (w : World) : Calls Tryz.prog 69 #[.string ⟨#[108, 101, 116]⟩, .bool false] w fun e w' => e = .returned (.bool true) ∧ w = w' := by
  go_enter Tryz.func69, Tryz.ntmps69
  go_wp2
  go_ret
  exact ⟨rfl, rfl⟩
theorem reserved_RAwait (w : World) : Calls Tryz.prog 69 #[.string ⟨#[97, 119, 97, 105, 116]⟩, .bool false] w fun e w' => e = .returned (.bool false) ∧ w = w' := by
  go_enter Tryz.func69, Tryz.ntmps69
  go_wp2
  go_ret
  exact ⟨rfl, rfl⟩
theorem reserved_RThis (w : World) : Calls Tryz.prog 69 #[.string ⟨#[116, 104, 105, 115]⟩, .bool false] w fun e w' => e = .returned (.bool true) ∧ w = w' := by
  go_enter Tryz.func69, Tryz.ntmps69
  go_wp2
  go_ret
  exact ⟨rfl, rfl⟩
theorem reserved_RSuper (w : World) : Calls Tryz.prog 69 #[.string ⟨#[115, 117, 112, 101, 114]⟩, .bool false] w fun e w' => e = .returned (.bool true) ∧ w = w' := by
  go_enter Tryz.func69, Tryz.ntmps69
  go_wp2
  go_ret
  exact ⟨rfl, rfl⟩
theorem reserved_RUndef (w : World) : Calls Tryz.prog 69 #[.string ⟨#[117, 110, 100, 101, 102, 105, 110, 101, 100]⟩, .bool false] w fun e w' => e = .returned (.bool false) ∧ w = w' := by
  go_enter Tryz.func69, Tryz.ntmps69
  go_wp2
  go_ret
  exact ⟨rfl, rfl⟩
theorem num_any (n : Int) (w : World) : Calls Tryz.prog 20 #[.int .i64 n] w fun e w' => e = .returned (.int .i64 n) ∧ w = w' := by
  go_enter Tryz.func20, Tryz.ntmps20
  go_wp2
  go_ret
  exact ⟨rfl, rfl⟩
/-- not the word super. -/
theorem super_no (n : Nd) (g o L B : Nat) (w : World) (hn : NdC w L B n g o) (hB : B ≤ w.heap.size) (hk : n.kind ≠ 6) :
    Calls Tryz.prog 35 #[.pointer (some ⟨g, o, none⟩)] w fun e w' => e = .returned (.bool false) ∧ w = w' := by
  obtain ⟨b, cap, hg, c0, c1, c2, c3, c4, hc, hr⟩ := hn.facts hB
  have e1 : (n.kind == 6) = false := by rw [beq_eq_false_iff_ne]; exact hk
  clear hr hk hn
  go_enter Tryz.func35, Tryz.ntmps35
  go_wp2_with fail
  go_ret
  exact ⟨rfl, rfl⟩
/-- no rules: no kids. -/
theorem kids_none (n : Nd) (g o L B : Nat) (w : World) (hn : NdC w L B n g o) (hB : B ≤ w.heap.size) :
    Calls Tryz.prog 44 #[.pointer (some ⟨g, o, none⟩), .slice none 0 0] w fun e w' => e = .returned (.bool (decide (n.kids.length = 0))) ∧ w = w' := by
  obtain ⟨b, cap, hg, c0, c1, c2, c3, c4, hc, hr⟩ := hn.facts hB
  clear hr hn
  by_cases h0 : n.kids.length = 0
  · have HD := Lib.hid (decide_eq_true h0)
    have e1 : (((n.kids.length : Nat) : Int) != 0) = false := by rw [h0]; rfl
    clear h0
    go_enter Tryz.func44, Tryz.ntmps44
    go_wp2_with fail
    go_loopw [17] (fun i wr => i = .int .i64 0 ∧ wr = w) (fun _ _ => 0)
    case atStart => exact ⟨rfl, rfl⟩
    case round =>
      obtain ⟨rfl, rfl⟩ := hrel
      go_wp2_with fail
      go_ret
      exact ⟨by rw [HD.out]; rfl, rfl⟩
  · have e1 : (((n.kids.length : Nat) : Int) != 0) = true := by rw [bne_iff_ne]; omega
    have HD := Lib.hid (decide_eq_false h0)
    clear h0
    go_enter Tryz.func44, Tryz.ntmps44
    go_wp2_with fail
    go_ret
    exact ⟨by rw [HD.out]; rfl, rfl⟩
/-- the rule expression, asked of one kid. -/
theorem kids_one (n : Nd) (g o L B r : Nat) (w : World) (hn : NdC w L B n g o) (hB : B ≤ w.heap.size) (h1 : n.kids.length = 1) (hr0 : w.cell? ⟨r, 0, none⟩ = some (.func (.func 30) #[] #[])) (hrl : r < w.heap.size) (v : Bool)
    (hex : ∀ g2 o2, NdC w L B (n.kids[0]'(by omega)) g2 o2 → Calls Tryz.prog 30 #[.pointer (some ⟨g2, o2, none⟩)] w fun e w' => e = .returned (.bool v) ∧ Below w.heap.size w w') :
    Calls Tryz.prog 44 #[.pointer (some ⟨g, o, none⟩), .slice (some ⟨r, 0, none⟩) 1 1] w fun e w' => e = .returned (.bool v) ∧ Below w.heap.size w w' := by
  obtain ⟨b, cap, hg, c0, c1, c2, c3, c4, hc, hr⟩ := hn.facts hB
  have h0 : 0 < n.kids.length := by omega
  obtain ⟨g2, off, rfl, hg2, hkn⟩ := kidC hr 0 h0
  have HEX := Lib.hid (hex g2 (off + 0 * 5) hkn)
  rw [h1] at c2
  clear hr hn hex hkn h1 h0 hc
  cases v with
  | true =>
    go_enter Tryz.func44, Tryz.ntmps44
    go_wp2_with fail
    go_loopw [17] (fun i wr => (i = .int .i64 0 ∧ wr = w) ∨ (i = .int .i64 1 ∧ Below w.heap.size w wr)) (fun i _ => 1 - (intOf i).toNat)
    case atStart => exact .inl ⟨rfl, rfl⟩
    case round =>
      rcases hrel with ⟨rfl, rfl⟩ | ⟨rfl, hb⟩
      · go_wp2_with (go_at_call 30; refine HEX.out.mono ?_; rintro e w2 ⟨rfl, hb2⟩)
        go_roundw
        case rel => exact .inr ⟨by go_num, hb2⟩
        case measure => simp [intOf]
      · have HB := Lib.hid hb
        clear hb
        go_wp2_with fail
        go_ret
        exact ⟨rfl, HB.out⟩
  | false =>
    go_enter Tryz.func44, Tryz.ntmps44
    go_wp2_with fail
    go_loopw [17] (fun i wr => i = .int .i64 0 ∧ wr = w) (fun _ _ => 0)
    case atStart => exact ⟨rfl, rfl⟩
    case round =>
      obtain ⟨rfl, rfl⟩ := hrel
      go_wp2_with (go_at_call 30; refine HEX.out.mono ?_; rintro e w2 ⟨rfl, hb2⟩)
      go_ret
      exact ⟨rfl, hb2⟩
/-- kind makes a rule. -/
theorem kind_any (g m c : Nat) (w : World) : Calls Tryz.prog 34 #[.slice (some ⟨g, 0, none⟩) m c] w fun e w' => e = .returned (.func (.func 38) #[] #[.pointer (some ⟨w.heap.size, 0, none⟩)]) ∧ w' = w.alloc (.cells #[.slice (some ⟨g, 0, none⟩) m c] 39) := by
  go_enter Tryz.func34, Tryz.ntmps34
  go_wp2
  go_ret
  exact ⟨rfl, rfl⟩
/-- another kind than the only one of a rule. -/
theorem contains_no (g : Nat) (x y : Int) (w : World) (hg : g < w.heap.size) (hc : w.cell? ⟨g, 0, none⟩ = some (.int .i64 x)) (hne : y ≠ x) :
    Calls Tryz.prog 39 #[.slice (some ⟨g, 0, none⟩) 1 1, .int .i64 y] w fun e w' => e = .returned (.bool false) ∧ w = w' := by
  have e1 : (y == x) = false := by rw [beq_eq_false_iff_ne]; exact hne
  clear hne
  have hI : Calls Tryz.prog 65 #[.slice (some ⟨g, 0, none⟩) 1 1, .int .i64 y] w fun e w' => e = .returned (.int .i64 (-1)) ∧ w = w' := by
    go_enter Tryz.func65, Tryz.ntmps65
    go_wp2_with fail
    go_loopw [8] (fun i wr => (i = .int .i64 0 ∧ wr = w) ∨ (i = .int .i64 1 ∧ wr = w)) (fun i _ => 1 - (intOf i).toNat)
    case atStart => exact .inl ⟨rfl, rfl⟩
    case round =>
      rcases hrel with ⟨rfl, rfl⟩ | ⟨rfl, rfl⟩
      · go_wp2_with fail
        go_roundw
        case rel => exact .inr ⟨by go_num, by trivial⟩
        case measure => simp [intOf]
      · go_wp2_with fail
        go_ret
        exact ⟨rfl, rfl⟩
  have HI := Lib.hid hI
  clear hI e1
  go_enter Tryz.func39, Tryz.ntmps39
  go_wp2_with (go_at_call 65; refine HI.out.mono ?_; rintro e w2 ⟨rfl, rfl⟩)
  go_ret
  exact ⟨rfl, rfl⟩
end Go.Proofs.YteejjkfmmhegmaaGreatDoor
