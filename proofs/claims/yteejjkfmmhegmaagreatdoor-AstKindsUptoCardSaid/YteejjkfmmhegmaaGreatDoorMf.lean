/- Contracts of ast.own and expression at leaves: numbers, texts, regular expressions, words, metas, privates. No condition of size. | Contracts of slices.Contains over texts, of among, of token. Conditions: at most 2^24 bytes; what a law of lex leans on. | AstKinds' own function: it answers true. Condition: what a law of lex leans on. -/
import Derived.Test.YteejjkfmmhegmaaGreatDoorMe
import Derived.Test.YteejjkfmmhegmaaGreatDoorLR
import Derived.Test.YteejjkfmmhegmaaGreatDoorLS
namespace Go.Proofs.YteejjkfmmhegmaaGreatDoor
open Go.RowKit

set_option maxRecDepth 100000 in
set_option maxHeartbeats 4000000 in
theorem own_num (n : Nd) (g o L B : Nat) (w : World) (v : Bool) (hn : NdC w L B n g o) (hB : B ≤ w.heap.size) (hk : n.kind = 3) (h0 : n.kids.length = 0)
    (hid : ∀ W, Below w.heap.size w W → Calls Tryz.prog 47 #[.string n.text] W fun e w' => e = .returned (.int .i64 (if v then 0 else 200)) ∧ Below W.heap.size W w') :
    Calls Tryz.prog 36 #[.pointer (some ⟨g, o, none⟩)] w fun e w' => e = .returned (.bool v) ∧ Below w.heap.size w w' := by
  obtain ⟨b, cap, hg, c0, c1, c2, c3, c4, hc, hr⟩ := hn.facts hB
  have HK := Lib.hid hk
  have HN := Lib.hid hn
  have HI := Lib.hid hid
  have HD := Lib.hid (decide_eq_true h0)
  clear hn hr hid hk h0 hc
  go_enter Tryz.func36, Tryz.ntmps36
  go_upto_region 3 with (go_at_call 34; refine (kind_any _ _ _ _).mono ?_; rintro e w2 ⟨rfl, rfl⟩)
  have hb4 : Below w.heap.size w ((((w.alloc (.cells #[.int .i64 58] 3)).alloc (.cells #[.slice (some ⟨w.heap.size, 0, none⟩) 1 1] 39)).alloc (.cells #[.int .i64 1] 3)).alloc (.cells #[.slice (some ⟨w.heap.size + 1 + 1, 0, none⟩) 1 1] 39)) := (((alloc_bel w _).alloc (by simp) _).alloc (by simp <;> omega) _).alloc (by simp <;> omega) _
  generalize ((((w.alloc (.cells #[.int .i64 58] 3)).alloc (.cells #[.slice (some ⟨w.heap.size, 0, none⟩) 1 1] 39)).alloc (.cells #[.int .i64 1] 3)).alloc (.cells #[.slice (some ⟨w.heap.size + 1 + 1, 0, none⟩) 1 1] 39)) = w4 at *
  have HB4 := Lib.hid hb4
  have hn4 := NdC_bel HN.out (hb4.mono hB)
  have hB4 := Nat.le_trans hB hb4.size
  clear c0 c1 c2 c3 c4 hb4 hg
  obtain ⟨b2, cap2, hg, c0, c1, c2, c3, c4, _, _⟩ := hn4.facts hB4
  rw [HK.out] at c0
  clear hn4
  have HC := Lib.hid (HI.out w4 HB4.out)
  cases v with
  | true =>
    go_wp2_with fail
    refine HC.out.mono ?_
    rintro e w5 ⟨rfl, hb5⟩
    have HB5 := Lib.hid (bel_next HB4.out hb5)
    have HKN := Lib.hid (kids_none n g o L B w5 (NdC_bel HN.out (HB5.out.mono hB)) (Nat.le_trans hB HB5.out.size))
    rw [HD.out] at HKN
    clear hb5 c0 c1 c2 c3 c4 hg
    go_wp2_with (go_at_call 44; refine HKN.out.mono ?_; rintro e w6 ⟨rfl, rfl⟩)
    go_ret
    exact ⟨rfl, HB5.out⟩
  | false =>
    go_wp2_with fail
    refine HC.out.mono ?_
    rintro e w5 ⟨rfl, hb5⟩
    have HB5 := Lib.hid (bel_next HB4.out hb5)
    clear hb5 c0 c1 c2 c3 c4 hg
    go_wp2_with fail
    go_ret
    exact ⟨rfl, HB5.out⟩
set_option maxRecDepth 100000 in
set_option maxHeartbeats 4000000 in
theorem own_str (n : Nd) (g o L B : Nat) (w : World) (v : Bool) (z : Int) (hn : NdC w L B n g o) (hB : B ≤ w.heap.size) (hk : n.kind = 4) (h0 : n.kids.length = 0)
    (hid : ∀ W, Below w.heap.size w W → Calls Tryz.prog 48 #[.string n.text] W fun e w' => e = .returned (.tuple #[.int .i64 z, .int .i64 (if v then 0 else 300)]) ∧ Below W.heap.size W w') :
    Calls Tryz.prog 36 #[.pointer (some ⟨g, o, none⟩)] w fun e w' => e = .returned (.bool v) ∧ Below w.heap.size w w' := by
  obtain ⟨b, cap, hg, c0, c1, c2, c3, c4, hc, hr⟩ := hn.facts hB
  have HK := Lib.hid hk
  have HN := Lib.hid hn
  have HI := Lib.hid hid
  have HD := Lib.hid (decide_eq_true h0)
  clear hn hr hid hk h0 hc
  go_enter Tryz.func36, Tryz.ntmps36
  go_upto_region 3 with (go_at_call 34; refine (kind_any _ _ _ _).mono ?_; rintro e w2 ⟨rfl, rfl⟩)
  have hb4 : Below w.heap.size w ((((w.alloc (.cells #[.int .i64 58] 3)).alloc (.cells #[.slice (some ⟨w.heap.size, 0, none⟩) 1 1] 39)).alloc (.cells #[.int .i64 1] 3)).alloc (.cells #[.slice (some ⟨w.heap.size + 1 + 1, 0, none⟩) 1 1] 39)) := (((alloc_bel w _).alloc (by simp) _).alloc (by simp <;> omega) _).alloc (by simp <;> omega) _
  generalize ((((w.alloc (.cells #[.int .i64 58] 3)).alloc (.cells #[.slice (some ⟨w.heap.size, 0, none⟩) 1 1] 39)).alloc (.cells #[.int .i64 1] 3)).alloc (.cells #[.slice (some ⟨w.heap.size + 1 + 1, 0, none⟩) 1 1] 39)) = w4 at *
  have HB4 := Lib.hid hb4
  have hn4 := NdC_bel HN.out (hb4.mono hB)
  have hB4 := Nat.le_trans hB hb4.size
  clear c0 c1 c2 c3 c4 hb4 hg
  obtain ⟨b2, cap2, hg, c0, c1, c2, c3, c4, _, _⟩ := hn4.facts hB4
  rw [HK.out] at c0
  clear hn4
  have HC := Lib.hid (HI.out w4 HB4.out)
  cases v with
  | true =>
    go_wp2_with fail
    refine HC.out.mono ?_
    rintro e w5 ⟨rfl, hb5⟩
    have HB5 := Lib.hid (bel_next HB4.out hb5)
    have HKN := Lib.hid (kids_none n g o L B w5 (NdC_bel HN.out (HB5.out.mono hB)) (Nat.le_trans hB HB5.out.size))
    rw [HD.out] at HKN
    clear hb5 c0 c1 c2 c3 c4 hg
    go_wp2_with (go_at_call 44; refine HKN.out.mono ?_; rintro e w6 ⟨rfl, rfl⟩)
    go_ret
    exact ⟨rfl, HB5.out⟩
  | false =>
    go_wp2_with fail
    refine HC.out.mono ?_
    rintro e w5 ⟨rfl, hb5⟩
    have HB5 := Lib.hid (bel_next HB4.out hb5)
    clear hb5 c0 c1 c2 c3 c4 hg
    go_wp2_with fail
    go_ret
    exact ⟨rfl, HB5.out⟩
set_option maxRecDepth 100000 in
set_option maxHeartbeats 4000000 in
theorem own_regex (n : Nd) (g o L B : Nat) (w : World) (v : Bool) (hn : NdC w L B n g o) (hB : B ≤ w.heap.size) (hk : n.kind = 5) (h0 : n.kids.length = 0)
    (hid : ∀ W, Below w.heap.size w W → Calls Tryz.prog 49 #[.string n.text, .int .i64 2, .int .i64 6] W fun e w' => e = .returned (.bool v) ∧ Below W.heap.size W w') :
    Calls Tryz.prog 36 #[.pointer (some ⟨g, o, none⟩)] w fun e w' => e = .returned (.bool v) ∧ Below w.heap.size w w' := by
  obtain ⟨b, cap, hg, c0, c1, c2, c3, c4, hc, hr⟩ := hn.facts hB
  have HK := Lib.hid hk
  have HN := Lib.hid hn
  have HI := Lib.hid hid
  have HD := Lib.hid (decide_eq_true h0)
  clear hn hr hid hk h0 hc
  go_enter Tryz.func36, Tryz.ntmps36
  go_upto_region 3 with (go_at_call 34; refine (kind_any _ _ _ _).mono ?_; rintro e w2 ⟨rfl, rfl⟩)
  have hb4 : Below w.heap.size w ((((w.alloc (.cells #[.int .i64 58] 3)).alloc (.cells #[.slice (some ⟨w.heap.size, 0, none⟩) 1 1] 39)).alloc (.cells #[.int .i64 1] 3)).alloc (.cells #[.slice (some ⟨w.heap.size + 1 + 1, 0, none⟩) 1 1] 39)) := (((alloc_bel w _).alloc (by simp) _).alloc (by simp <;> omega) _).alloc (by simp <;> omega) _
  generalize ((((w.alloc (.cells #[.int .i64 58] 3)).alloc (.cells #[.slice (some ⟨w.heap.size, 0, none⟩) 1 1] 39)).alloc (.cells #[.int .i64 1] 3)).alloc (.cells #[.slice (some ⟨w.heap.size + 1 + 1, 0, none⟩) 1 1] 39)) = w4 at *
  have HB4 := Lib.hid hb4
  have hn4 := NdC_bel HN.out (hb4.mono hB)
  have hB4 := Nat.le_trans hB hb4.size
  clear c0 c1 c2 c3 c4 hb4 hg
  obtain ⟨b2, cap2, hg, c0, c1, c2, c3, c4, _, _⟩ := hn4.facts hB4
  rw [HK.out] at c0
  clear hn4
  have HC := Lib.hid (HI.out w4 HB4.out)
  cases v with
  | true =>
    go_wp2_with fail
    refine HC.out.mono ?_
    rintro e w5 ⟨rfl, hb5⟩
    have HB5 := Lib.hid (bel_next HB4.out hb5)
    have HKN := Lib.hid (kids_none n g o L B w5 (NdC_bel HN.out (HB5.out.mono hB)) (Nat.le_trans hB HB5.out.size))
    rw [HD.out] at HKN
    clear hb5 c0 c1 c2 c3 c4 hg
    go_wp2_with (go_at_call 44; refine HKN.out.mono ?_; rintro e w6 ⟨rfl, rfl⟩)
    go_ret
    exact ⟨rfl, HB5.out⟩
  | false =>
    go_wp2_with fail
    refine HC.out.mono ?_
    rintro e w5 ⟨rfl, hb5⟩
    have HB5 := Lib.hid (bel_next HB4.out hb5)
    clear hb5 c0 c1 c2 c3 c4 hg
    go_wp2_with fail
    go_ret
    exact ⟨rfl, HB5.out⟩
set_option maxRecDepth 100000 in
set_option maxHeartbeats 4000000 in
theorem own_word (n : Nd) (g o L B : Nat) (w : World) (v : Bool) (hn : NdC w L B n g o) (hB : B ≤ w.heap.size) (hk : n.kind = 6) (h0 : n.kids.length = 0)
    (hid : ∀ W, Below w.heap.size w W → Calls Tryz.prog 50 #[.string n.text, .string ⟨#[110, 117, 108, 108, 32, 116, 114, 117, 101, 32, 102, 97, 108, 115, 101, 32, 116, 104, 105, 115, 32, 115, 117, 112, 101, 114]⟩] W fun e w' => e = .returned (.bool v) ∧ Below W.heap.size W w') :
    Calls Tryz.prog 36 #[.pointer (some ⟨g, o, none⟩)] w fun e w' => e = .returned (.bool v) ∧ Below w.heap.size w w' := by
  obtain ⟨b, cap, hg, c0, c1, c2, c3, c4, hc, hr⟩ := hn.facts hB
  have HK := Lib.hid hk
  have HN := Lib.hid hn
  have HI := Lib.hid hid
  have HD := Lib.hid (decide_eq_true h0)
  clear hn hr hid hk h0 hc
  go_enter Tryz.func36, Tryz.ntmps36
  go_upto_region 3 with (go_at_call 34; refine (kind_any _ _ _ _).mono ?_; rintro e w2 ⟨rfl, rfl⟩)
  have hb4 : Below w.heap.size w ((((w.alloc (.cells #[.int .i64 58] 3)).alloc (.cells #[.slice (some ⟨w.heap.size, 0, none⟩) 1 1] 39)).alloc (.cells #[.int .i64 1] 3)).alloc (.cells #[.slice (some ⟨w.heap.size + 1 + 1, 0, none⟩) 1 1] 39)) := (((alloc_bel w _).alloc (by simp) _).alloc (by simp <;> omega) _).alloc (by simp <;> omega) _
  generalize ((((w.alloc (.cells #[.int .i64 58] 3)).alloc (.cells #[.slice (some ⟨w.heap.size, 0, none⟩) 1 1] 39)).alloc (.cells #[.int .i64 1] 3)).alloc (.cells #[.slice (some ⟨w.heap.size + 1 + 1, 0, none⟩) 1 1] 39)) = w4 at *
  have HB4 := Lib.hid hb4
  have hn4 := NdC_bel HN.out (hb4.mono hB)
  have hB4 := Nat.le_trans hB hb4.size
  clear c0 c1 c2 c3 c4 hb4 hg
  obtain ⟨b2, cap2, hg, c0, c1, c2, c3, c4, _, _⟩ := hn4.facts hB4
  rw [HK.out] at c0
  clear hn4
  have HC := Lib.hid (HI.out w4 HB4.out)
  cases v with
  | true =>
    go_wp2_with fail
    refine HC.out.mono ?_
    rintro e w5 ⟨rfl, hb5⟩
    have HB5 := Lib.hid (bel_next HB4.out hb5)
    have HKN := Lib.hid (kids_none n g o L B w5 (NdC_bel HN.out (HB5.out.mono hB)) (Nat.le_trans hB HB5.out.size))
    rw [HD.out] at HKN
    clear hb5 c0 c1 c2 c3 c4 hg
    go_wp2_with (go_at_call 44; refine HKN.out.mono ?_; rintro e w6 ⟨rfl, rfl⟩)
    go_ret
    exact ⟨rfl, HB5.out⟩
  | false =>
    go_wp2_with fail
    refine HC.out.mono ?_
    rintro e w5 ⟨rfl, hb5⟩
    have HB5 := Lib.hid (bel_next HB4.out hb5)
    clear hb5 c0 c1 c2 c3 c4 hg
    go_wp2_with fail
    go_ret
    exact ⟨rfl, HB5.out⟩
set_option maxRecDepth 100000 in
set_option maxHeartbeats 4000000 in
theorem own_meta (n : Nd) (g o L B : Nat) (w : World) (v : Bool) (hn : NdC w L B n g o) (hB : B ≤ w.heap.size) (hk : n.kind = 7) (h0 : n.kids.length = 0)
    (hid : ∀ W, Below w.heap.size w W → Calls Tryz.prog 50 #[.string n.text, .string ⟨#[110, 101, 119, 46, 116, 97, 114, 103, 101, 116, 32, 105, 109, 112, 111, 114, 116, 46, 109, 101, 116, 97]⟩] W fun e w' => e = .returned (.bool v) ∧ Below W.heap.size W w') :
    Calls Tryz.prog 36 #[.pointer (some ⟨g, o, none⟩)] w fun e w' => e = .returned (.bool v) ∧ Below w.heap.size w w' := by
  obtain ⟨b, cap, hg, c0, c1, c2, c3, c4, hc, hr⟩ := hn.facts hB
  have HK := Lib.hid hk
  have HN := Lib.hid hn
  have HI := Lib.hid hid
  have HD := Lib.hid (decide_eq_true h0)
  clear hn hr hid hk h0 hc
  go_enter Tryz.func36, Tryz.ntmps36
  go_upto_region 3 with (go_at_call 34; refine (kind_any _ _ _ _).mono ?_; rintro e w2 ⟨rfl, rfl⟩)
  have hb4 : Below w.heap.size w ((((w.alloc (.cells #[.int .i64 58] 3)).alloc (.cells #[.slice (some ⟨w.heap.size, 0, none⟩) 1 1] 39)).alloc (.cells #[.int .i64 1] 3)).alloc (.cells #[.slice (some ⟨w.heap.size + 1 + 1, 0, none⟩) 1 1] 39)) := (((alloc_bel w _).alloc (by simp) _).alloc (by simp <;> omega) _).alloc (by simp <;> omega) _
  generalize ((((w.alloc (.cells #[.int .i64 58] 3)).alloc (.cells #[.slice (some ⟨w.heap.size, 0, none⟩) 1 1] 39)).alloc (.cells #[.int .i64 1] 3)).alloc (.cells #[.slice (some ⟨w.heap.size + 1 + 1, 0, none⟩) 1 1] 39)) = w4 at *
  have HB4 := Lib.hid hb4
  have hn4 := NdC_bel HN.out (hb4.mono hB)
  have hB4 := Nat.le_trans hB hb4.size
  clear c0 c1 c2 c3 c4 hb4 hg
  obtain ⟨b2, cap2, hg, c0, c1, c2, c3, c4, _, _⟩ := hn4.facts hB4
  rw [HK.out] at c0
  clear hn4
  have HC := Lib.hid (HI.out w4 HB4.out)
  cases v with
  | true =>
    go_wp2_with fail
    refine HC.out.mono ?_
    rintro e w5 ⟨rfl, hb5⟩
    have HB5 := Lib.hid (bel_next HB4.out hb5)
    have HKN := Lib.hid (kids_none n g o L B w5 (NdC_bel HN.out (HB5.out.mono hB)) (Nat.le_trans hB HB5.out.size))
    rw [HD.out] at HKN
    clear hb5 c0 c1 c2 c3 c4 hg
    go_wp2_with (go_at_call 44; refine HKN.out.mono ?_; rintro e w6 ⟨rfl, rfl⟩)
    go_ret
    exact ⟨rfl, HB5.out⟩
  | false =>
    go_wp2_with fail
    refine HC.out.mono ?_
    rintro e w5 ⟨rfl, hb5⟩
    have HB5 := Lib.hid (bel_next HB4.out hb5)
    clear hb5 c0 c1 c2 c3 c4 hg
    go_wp2_with fail
    go_ret
    exact ⟨rfl, HB5.out⟩
theorem ast_ba_ext {a b : ByteArray} (h : a.data.toList = b.data.toList) : a = b := by
  cases a; cases b; congr 1; exact Array.toList_inj.1 h
theorem ast_list_ne {a b : ByteArray} (h : a ≠ b) : (a.toList == b.toList) = false := by
  rw [beq_eq_false_iff_ne]
  intro e
  rw [Lib.toList_data, Lib.toList_data] at e
  exact h (ast_ba_ext e)
/-- a Private is no expression. -/
theorem expr_priv (n : Nd) (g o L B : Nat) (w : World) (hn : NdC w L B n g o) (hB : B ≤ w.heap.size) (hk : n.kind = 2) :
    Calls Tryz.prog 30 #[.pointer (some ⟨g, o, none⟩)] w fun e w' => e = .returned (.bool false) ∧ Below w.heap.size w w' := by
  obtain ⟨b, cap, hg, c0, c1, c2, c3, c4, hc, hr⟩ := hn.facts hB
  rw [hk] at c0
  clear hn hr hk hc c1 c2 c3 c4
  go_enter Tryz.func30, Tryz.ntmps30
  go_wp2_with fail
  go_ret
  exact ⟨rfl, Below.refl _ _⟩
/-- the word super is no expression. -/
theorem expr_super (n : Nd) (g o L B : Nat) (w : World) (hn : NdC w L B n g o) (hB : B ≤ w.heap.size) (hk : n.kind = 6) (ht : n.text = ⟨#[115, 117, 112, 101, 114]⟩) (h0 : n.kids.length = 0) :
    Calls Tryz.prog 30 #[.pointer (some ⟨g, o, none⟩)] w fun e w' => e = .returned (.bool false) ∧ Below w.heap.size w w' := by
  obtain ⟨b, cap, hg, c0, c1, c2, c3, c4, hc, hr⟩ := hn.facts hB
  rw [hk] at c0
  rw [ht] at c1
  rw [h0] at c2
  have hS : Calls Tryz.prog 35 #[.pointer (some ⟨g, o, none⟩)] w fun e w' => e = .returned (.bool true) ∧ w = w' := by
    clear hn hr hk hc c3 c4 ht h0
    go_enter Tryz.func35, Tryz.ntmps35
    go_wp2_with fail
    go_ret
    exact ⟨rfl, rfl⟩
  have HS := Lib.hid hS
  clear hn hr hk hc c3 c4 ht h0 hS c1 c2
  go_enter Tryz.func30, Tryz.ntmps30
  go_wp2_with (go_at_call 35; refine HS.out.mono ?_; rintro e w2 ⟨rfl, rfl⟩)
  go_ret
  exact ⟨rfl, Below.refl _ _⟩
/-- another word. -/
theorem expr_word (n : Nd) (g o L B : Nat) (w : World) (v : Bool) (hn : NdC w L B n g o) (hB : B ≤ w.heap.size) (hk : n.kind = 6) (ht : n.text ≠ ⟨#[115, 117, 112, 101, 114]⟩)
    (how : Calls Tryz.prog 36 #[.pointer (some ⟨g, o, none⟩)] w fun e w' => e = .returned (.bool v) ∧ Below w.heap.size w w') :
    Calls Tryz.prog 30 #[.pointer (some ⟨g, o, none⟩)] w fun e w' => e = .returned (.bool v) ∧ Below w.heap.size w w' := by
  obtain ⟨b, cap, hg, c0, c1, c2, c3, c4, hc, hr⟩ := hn.facts hB
  rw [hk] at c0
  have hne : (n.text.toList == (⟨#[115, 117, 112, 101, 114]⟩ : ByteArray).toList) = false := ast_list_ne ht
  rw [show (⟨#[115, 117, 112, 101, 114]⟩ : ByteArray).toList = [115, 117, 112, 101, 114] by kernel_rfl] at hne
  have hS : Calls Tryz.prog 35 #[.pointer (some ⟨g, o, none⟩)] w fun e w' => e = .returned (.bool false) ∧ w = w' := by
    clear hn hr hk hc c3 c4 ht how
    go_enter Tryz.func35, Tryz.ntmps35
    go_wp2_with fail
    go_ret
    exact ⟨rfl, rfl⟩
  have HS := Lib.hid hS
  have HO := Lib.hid how
  clear hn hr hk hc c3 c4 ht hS c1 c2 how hne
  go_enter Tryz.func30, Tryz.ntmps30
  go_wp2_with (first | (go_at_call 35; refine HS.out.mono ?_; rintro e w2 ⟨rfl, rfl⟩) | (go_at_call 36; refine HO.out.mono ?_; rintro e w2 ⟨rfl, hb2⟩))
  go_ret
  exact ⟨rfl, hb2⟩
end Go.Proofs.YteejjkfmmhegmaaGreatDoor
namespace Go.Proofs.YteejjkfmmhegmaaGreatDoor
open Go.RowKit

/-- where a text first stands in a row; -1: nowhere. -/
def ixS (s : ByteArray) : List ByteArray → Nat → Int
  | [], _ => -1
  | x :: xs, i => if s = x then (i : Int) else ixS s xs (i + 1)
theorem ixS_iff (s : ByteArray) : ∀ (l : List ByteArray) (i : Nat), (0 ≤ ixS s l i) ↔ s ∈ l
  | [], i => by rw [ixS]; simp
  | x :: xs, i => by
    rw [ixS, List.mem_cons]
    split
    · rename_i h
      exact ⟨fun _ => .inl h, fun _ => by omega⟩
    · rename_i h
      rw [ixS_iff s xs (i + 1)]
      exact ⟨.inr, fun h2 => h2.resolve_left h⟩
theorem ixS_drop {s : ByteArray} {l : List ByteArray} {k : Nat} (h : k < l.length) : ixS s (l.drop k) k = if s = l[k] then (k : Int) else ixS s (l.drop (k + 1)) (k + 1) := by
  rw [List.drop_eq_getElem_cons h, ixS]
set_option maxRecDepth 20000 in
set_option maxHeartbeats 2000000 in
theorem index_any (s : ByteArray) (ss : List ByteArray) (g c : Nat) (w : World) (hg : g < w.heap.size) (hlen : ss.length ≤ 16777216) (hrow : ∀ j, (h : j < ss.length) → w.cell? ⟨g, j, none⟩ = some (.string ss[j])) :
    Calls Tryz.prog 113 #[.slice (some ⟨g, 0, none⟩) ss.length c, .string s] w fun e w' => e = .returned (.int .i64 (ixS s ss 0)) ∧ w = w' := by
  have HR := Lib.hid hrow
  obtain ⟨B, hB⟩ : ∃ B, ixS s ss 0 = B := ⟨_, rfl⟩
  rw [hB]
  have HB := Lib.hid (show ixS s (ss.drop 0) 0 = B by rw [List.drop_zero]; exact hB)
  clear hrow hB
  go_enter Tryz.func113, Tryz.ntmps113
  go_wp2_with fail
  go_loopw [8] (fun i wr => ∃ k : Nat, k ≤ ss.length ∧ i = .int .i64 k ∧ wr = w ∧ Hid (ixS s (ss.drop k) k = B)) (fun i _ => ss.length - (intOf i).toNat)
  case atStart => exact ⟨0, Nat.zero_le _, rfl, rfl, HB⟩
  case round =>
    clear HB
    obtain ⟨k, hk, rfl, rfl, HX⟩ := hrel
    by_cases hlt : k < ss.length
    · have hc := HR.out k hlt
      have HD := Lib.hid (ixS_drop (s := s) hlt)
      generalize ss[k] = x at *
      by_cases he : s = x
      · have HA := Lib.hid (show B = (k : Int) by rw [← HX.out, HD.out, if_pos he])
        subst he
        have h2 : (s.toList == s.toList) = true := by rw [beq_iff_eq]
        go_wp2_with fail
        go_ret
        exact ⟨by rw [HA.out]; rfl, rfl⟩
      · have HA := Lib.hid (show ixS s (ss.drop (k + 1)) (k + 1) = B by rw [← HX.out, HD.out, if_neg he])
        have h2 := ast_list_ne he
        clear he
        go_wp2_with fail
        go_roundw
        case rel => exact ⟨k + 1, hlt, by go_num, by trivial, HA⟩
        case measure => simp [intOf]; omega
    · obtain rfl : k = ss.length := by omega
      have HA := Lib.hid (show B = -1 by rw [← HX.out, List.drop_length, ixS])
      go_wp2_with fail
      go_ret
      exact ⟨by rw [HA.out]; rfl, rfl⟩
/-- is a text in a row? -/
def hasS (s : ByteArray) (ss : List ByteArray) : Bool := decide (0 ≤ ixS s ss 0)
theorem hasS_iff (s : ByteArray) (ss : List ByteArray) : hasS s ss = true ↔ s ∈ ss := by rw [hasS, decide_eq_true_eq, ixS_iff]
theorem containsS_any (s : ByteArray) (ss : List ByteArray) (g c : Nat) (w : World) (hg : g < w.heap.size) (hlen : ss.length ≤ 16777216) (hrow : ∀ j, (h : j < ss.length) → w.cell? ⟨g, j, none⟩ = some (.string ss[j])) :
    Calls Tryz.prog 76 #[.slice (some ⟨g, 0, none⟩) ss.length c, .string s] w fun e w' => e = .returned (.bool (hasS s ss)) ∧ w = w' := by
  have HI := Lib.hid (index_any s ss g c w hg hlen hrow)
  have HD := Lib.hid (show hasS s ss = decide (0 ≤ ixS s ss 0) from rfl)
  generalize ixS s ss 0 = z at *
  generalize hasS s ss = B at *
  clear hrow
  go_enter Tryz.func76, Tryz.ntmps76
  go_wp2_with (go_at_call 113; refine HI.out.mono ?_; rintro e w2 ⟨rfl, rfl⟩)
  go_ret
  exact ⟨by rw [HD.out]; rfl, rfl⟩
/-- a text's words, as texts. -/
def wordsS (t : ByteArray) : List ByteArray := (Lib.fields t.data.toList).map fun l => ⟨l.toArray⟩
/-- is a text one of these words? -/
def amongB (s t : ByteArray) : Bool := if s = ⟨#[]⟩ then false else hasS s (wordsS t)
set_option maxRecDepth 20000 in
theorem among_any (s t : ByteArray) (w : World) (ht : t.size ≤ 4096) (hascii : ∀ (j : Nat) b, t.data.toList[j]? = some b → b.toNat < 128) (hlen : (Lib.fields t.data.toList).length ≤ 16777216) (hX : Lx w) :
    Calls Tryz.prog 50 #[.string s, .string t] w fun e w' => e = .returned (.bool (amongB s t)) ∧ Below w.heap.size w w' := by
  by_cases h0 : s = ⟨#[]⟩
  · have HA := Lib.hid (show amongB s t = false by rw [amongB, if_pos h0])
    subst h0
    clear hX hascii ht hlen
    go_enter Tryz.func50, Tryz.ntmps50
    go_wp2_with fail
    go_ret
    exact ⟨by rw [HA.out]; rfl, Below.refl _ _⟩
  · have HA := Lib.hid (show amongB s t = hasS s (wordsS t) by rw [amongB, if_neg h0])
    have HF := Lib.hid (Tryz.strings_Fields t w (by omega) hascii hX.spc)
    have h1 : (s.toList == (⟨#[]⟩ : ByteArray).toList) = false := ast_list_ne h0
    have h2 : s.toList.isEmpty = false := by
      rw [Lib.toList_data]
      cases hd : s.data.toList with
      | nil => exact absurd (ast_ba_ext (by rw [hd])) h0
      | cons x l => rfl
    have hl : (wordsS t).length = (Lib.fields t.data.toList).length := by rw [wordsS, List.length_map]
    have HC := Lib.hid (containsS_any s (wordsS t) w.heap.size (wordsS t).length (w.alloc (.cells ((Lib.fields t.data.toList).map fun l => Value.string ⟨l.toArray⟩).toArray 9)) (by simp) (by rw [hl]; exact hlen) (fun j h => by
      rw [cell_of_row _ w.heap.size j _ _ _ (heap_alloc_new w _)]
      simp [wordsS] at h ⊢))
    rw [hl] at HC
    generalize hasS s (wordsS t) = B at *
    clear hX hascii ht hlen h0 hl
    go_enter Tryz.func50, Tryz.ntmps50
    go_wp2_with fail
    refine HF.out.mono ?_
    rintro e w2 ⟨rfl, rfl⟩
    go_wp2_with fail
    refine HC.out.mono ?_
    rintro e w2 ⟨rfl, rfl⟩
    go_wp2_with fail
    go_ret
    exact ⟨by rw [HA.out]; rfl, alloc_bel _ _⟩
/-- is a text one token of a goal, all of it? -/
def tokB (s : ByteArray) (goal kind : Int) : Bool := match nxt s 0 goal with
  | .bad _ _ => false
  | .fine k q n _ cs => decide (k = kind) && decide (s.extract q (q + n) = s) && decide (cs.length = 0)
set_option maxRecDepth 20000 in
set_option maxHeartbeats 2000000 in
theorem token_any (s : ByteArray) (goal kind : Int) (w : World) (hs : s.size ≤ 16777216) (hX : Lx w) (hcode : ∀ p c, nxt s 0 goal = .bad p c → c ≠ 0) :
    Calls Tryz.prog 49 #[.string s, .int .i64 goal, .int .i64 kind] w fun e w' => e = .returned (.bool (tokB s goal kind)) ∧ Below w.heap.size w w' := by
  have hN := Next_any s 0 goal w hs (Nat.zero_le _) hX 0 rfl
  cases hO : nxt s 0 goal with
  | bad place code =>
    have HA := Lib.hid (show tokB s goal kind = false by rw [tokB, hO])
    rw [hO] at hN
    simp only [NxPost, Tk.val, Tk.cells, Tk.zero] at hN
    have HN := Lib.hid hN
    obtain ⟨zc, hzc⟩ : ∃ zc, code = zc := ⟨_, rfl⟩
    have e1 : (code == 0) = false := by
      rw [beq_eq_false_iff_ne]
      exact hcode place code hO
    clear hN hO hX hzc hcode
    go_enter Tryz.func49, Tryz.ntmps49
    go_wp2_with fail
    refine HN.out.mono ?_
    rintro e w2 ⟨rfl, hb2⟩
    have HB := Lib.hid (hb2.alloc hb2.size (.cells #[.int .i64 0, .string ⟨#[]⟩, .int .i64 0, .int .i64 0, .bool false] 83))
    clear hb2
    go_wp2_with fail
    go_ret
    exact ⟨by rw [HA.out]; rfl, HB.out⟩
  | fine k q n line cs =>
    have HA := Lib.hid (show tokB s goal kind = (decide (k = kind) && decide (s.extract q (q + n) = s) && decide (cs.length = 0)) by rw [tokB, hO])
    rw [hO] at hN
    simp only [NxPost, Tk.val, Tk.cells] at hN
    generalize s.extract q (q + n) = T at *
    have HN := Lib.hid hN
    clear hN hO hX hcode
    by_cases hk : k = kind
    · have e1 : (k == kind) = true := by rw [beq_iff_eq]; exact hk
      by_cases hT : T = s
      · have HB2 := Lib.hid (show tokB s goal kind = decide (cs.length = 0) by rw [HA.out, decide_eq_true hk, decide_eq_true hT]; rfl)
        have HE := Lib.hid (show (((cs.length : Nat) : Int) == 0) = decide (cs.length = 0) by rw [Bool.eq_iff_iff, beq_iff_eq, decide_eq_true_eq]; omega)
        subst hT
        have e2 : (T.toList == T.toList) = true := by rw [beq_iff_eq]
        clear hk HA
        go_enter Tryz.func49, Tryz.ntmps49
        go_wp2_with fail
        refine HN.out.mono ?_
        rintro e w2 ⟨v, rfl, ho, hb2⟩
        obtain ⟨vp, cap, rfl⟩ := ho.form
        have HB := Lib.hid (hb2.alloc hb2.size (.cells #[.int .i64 k, .string T, .int .i64 q, .int .i64 ((q + n : Nat) : Int), .bool line] 83))
        clear ho hb2
        go_wp2_with fail
        go_ret
        exact ⟨by rw [HB2.out, ← HE.out]; rfl, HB.out⟩
      · have HB2 := Lib.hid (show tokB s goal kind = false by rw [HA.out, decide_eq_false hT, Bool.and_false]; rfl)
        have e2 := ast_list_ne hT
        clear hk HA hT
        go_enter Tryz.func49, Tryz.ntmps49
        go_wp2_with fail
        refine HN.out.mono ?_
        rintro e w2 ⟨v, rfl, ho, hb2⟩
        obtain ⟨vp, cap, rfl⟩ := ho.form
        have HB := Lib.hid (hb2.alloc hb2.size (.cells #[.int .i64 k, .string T, .int .i64 q, .int .i64 ((q + n : Nat) : Int), .bool line] 83))
        clear ho hb2
        go_wp2_with fail
        go_ret
        exact ⟨by rw [HB2.out]; rfl, HB.out⟩
    · have e1 : (k == kind) = false := by rw [beq_eq_false_iff_ne]; exact hk
      have HB2 := Lib.hid (show tokB s goal kind = false by rw [HA.out, decide_eq_false hk]; rfl)
      clear hk HA
      go_enter Tryz.func49, Tryz.ntmps49
      go_wp2_with fail
      refine HN.out.mono ?_
      rintro e w2 ⟨v, rfl, ho, hb2⟩
      obtain ⟨vp, cap, rfl⟩ := ho.form
      have HB := Lib.hid (hb2.alloc hb2.size (.cells #[.int .i64 k, .string T, .int .i64 q, .int .i64 ((q + n : Nat) : Int), .bool line] 83))
      clear ho hb2
      go_wp2_with fail
      go_ret
      exact ⟨by rw [HB2.out]; rfl, HB.out⟩
end Go.Proofs.YteejjkfmmhegmaaGreatDoor
namespace Go.Proofs.YteejjkfmmhegmaaGreatDoor
open Go.RowKit

/-- a leaf. -/
def lfN (k : Int) (s : ByteArray) : Nd := .mk k s [] 0 0
theorem lf_v (k : Int) (w : World) (L B : Nat) (s : ByteArray) : NdV w L B (lfN k s) (.agg #[.int .i64 k, .string s, .slice none 0 0, .int .i64 0, .int .i64 0]) :=
  ⟨none, 0, rfl, Nat.le_refl _, by show RowP _ _ _ [] _ _; rw [RowP]; trivial⟩
theorem leaf_check (k : Int) (s : ByteArray) (r : Bool) (hk : k ≠ 86) (w : World)
    (hex : ∀ (W : World) (g o L2 B2 : Nat), NdC W L2 B2 (lfN k s) g o → B2 ≤ W.heap.size → Below w.heap.size w W → Calls Tryz.prog 30 #[.pointer (some ⟨g, o, none⟩)] W fun e w' => e = .returned (.bool r) ∧ Below W.heap.size W w') :
    Calls Tryz.prog 19 #[.agg #[.int .i64 k, .string s, .slice none 0 0, .int .i64 0, .int .i64 0]] w fun e w' => e = .returned (.int .i64 (if r then 0 else 800)) ∧ Below w.heap.size w w' := by
  have hd : ndDeep (lfN k s) = 1 := by rw [lfN, ndDeep, ndDeeps]
  have hs : ndSize (lfN k s) = 1 := by rw [lfN, ndSize, ndSizes]
  have h := Check_any (lfN k s) _ w 0 w.heap.size r (lf_v k w 0 _ s) (Nat.le_refl _) (by rw [hs]; decide) hk (fun _ => hex)
  have e : chkV (lfN k s) r = if r then 0 else 800 := by rw [chkV, hd]; rfl
  rw [e] at h
  exact h
theorem ident_of' (s : ByteArray) (v r : Bool) (w : World) (hs : s.size ≤ 16777216) (hv : nameOK s.data.toList = v) (hr : v = true → ∀ w, Calls Tryz.prog 69 #[.string s, .bool false] w fun e w' => e = .returned (.bool r) ∧ w = w') :
    Calls Tryz.prog 43 #[.string s] w fun e w' => e = .returned (.bool (v && !r)) ∧ Below w.heap.size w w' := by
  cases v with
  | true => exact ident_of s true r w hs hv (hr rfl)
  | false =>
    have HN := Lib.hid (wname_any s w hs)
    rw [hv] at HN
    clear hr hv hs
    go_enter Tryz.func43, Tryz.ntmps43
    go_wp2_with (go_at_call 46; refine HN.out.mono ?_; rintro e w2 ⟨rfl, hb2⟩)
    go_ret
    exact ⟨rfl, hb2⟩
theorem chk_ident (s : ByteArray) (v r : Bool) (hs : s.size ≤ 4096) (hv : nameOK s.data.toList = v) (hr : v = true → ∀ w, Calls Tryz.prog 69 #[.string s, .bool false] w fun e w' => e = .returned (.bool r) ∧ w = w') (w : World) :
    Calls Tryz.prog 19 #[.agg #[.int .i64 1, .string s, .slice none 0 0, .int .i64 0, .int .i64 0]] w fun e w' => e = .returned (.int .i64 (if (v && !r) then 0 else 800)) ∧ Below w.heap.size w w' :=
  leaf_check 1 s (v && !r) (by decide) w fun W g o L2 B2 hn hB _ => expr_1 (lfN 1 s) g o L2 B2 W _ hn hB rfl (own_ident (lfN 1 s) g o L2 B2 W _ hn hB rfl rfl (fun w => ident_of' s v r w (by omega) hv hr))
theorem chk_num (s : ByteArray) (hs : s.size ≤ 4096) (w : World) (hX : Lx w) :
    Calls Tryz.prog 19 #[.agg #[.int .i64 3, .string s, .slice none 0 0, .int .i64 0, .int .i64 0]] w fun e w' => e = .returned (.int .i64 (if (readB s).2 then 0 else 800)) ∧ Below w.heap.size w w' :=
  leaf_check 3 s (readB s).2 (by decide) w fun W g o L2 B2 hn hB hb => expr_3 (lfN 3 s) g o L2 B2 W _ hn hB rfl (own_num (lfN 3 s) g o L2 B2 W _ hn hB rfl rfl (fun W2 hb2 => check_any s W2 (by omega) (((hX.bel hb).bel hb2).max)))
theorem chk_str (s : ByteArray) (hs : s.size ≤ 4096) (w : World) (hX : Lx w) :
    Calls Tryz.prog 19 #[.agg #[.int .i64 4, .string s, .slice none 0 0, .int .i64 0, .int .i64 0]] w fun e w' => e = .returned (.int .i64 (if (strC s.data.toList).1 then 0 else 800)) ∧ Below w.heap.size w w' :=
  leaf_check 4 s (strC s.data.toList).1 (by decide) w fun W g o L2 B2 hn hB hb => expr_4 (lfN 4 s) g o L2 B2 W _ hn hB rfl (own_str (lfN 4 s) g o L2 B2 W _ _ hn hB rfl rfl (fun W2 hb2 => scheck_any s W2 (by omega) (((hX.bel hb).bel hb2).tabs)))
theorem chk_regex (s : ByteArray) (hs : s.size ≤ 4096) (w : World) (hX : Lx w) :
    Calls Tryz.prog 19 #[.agg #[.int .i64 5, .string s, .slice none 0 0, .int .i64 0, .int .i64 0]] w fun e w' => e = .returned (.int .i64 (if tokB s 2 6 then 0 else 800)) ∧ Below w.heap.size w w' :=
  leaf_check 5 s (tokB s 2 6) (by decide) w fun W g o L2 B2 hn hB hb => expr_5 (lfN 5 s) g o L2 B2 W _ hn hB rfl (own_regex (lfN 5 s) g o L2 B2 W _ hn hB rfl rfl (fun W2 hb2 => token_any s 2 6 W2 (by omega) ((hX.bel hb).bel hb2) (fun p c h => by have h2 := nxt_nz s 0 2 (Nat.zero_le _); rw [h] at h2; exact h2)))
theorem asc_of {t : ByteArray} (h : t.data.toList.all (fun b => decide (b.toNat < 128)) = true) : ∀ (j : Nat) b, t.data.toList[j]? = some b → b.toNat < 128 := fun _ b hb => by
  have := List.all_eq_true.1 h b (List.mem_of_getElem? hb)
  exact of_decide_eq_true this
theorem chk_super (w : World) : Calls Tryz.prog 19 #[.agg #[.int .i64 6, .string ⟨#[115, 117, 112, 101, 114]⟩, .slice none 0 0, .int .i64 0, .int .i64 0]] w fun e w' => e = .returned (.int .i64 (if false then 0 else 800)) ∧ Below w.heap.size w w' :=
  leaf_check 6 _ false (by decide) w fun W g o L2 B2 hn hB _ => expr_super _ g o L2 B2 W hn hB rfl rfl rfl
theorem chk_word (s : ByteArray) (w : World) (hX : Lx w) (hne : s ≠ ⟨#[115, 117, 112, 101, 114]⟩) :
    Calls Tryz.prog 19 #[.agg #[.int .i64 6, .string s, .slice none 0 0, .int .i64 0, .int .i64 0]] w fun e w' => e = .returned (.int .i64 (if amongB s ⟨#[110, 117, 108, 108, 32, 116, 114, 117, 101, 32, 102, 97, 108, 115, 101, 32, 116, 104, 105, 115, 32, 115, 117, 112, 101, 114]⟩ then 0 else 800)) ∧ Below w.heap.size w w' :=
  leaf_check 6 s (amongB s ⟨#[110, 117, 108, 108, 32, 116, 114, 117, 101, 32, 102, 97, 108, 115, 101, 32, 116, 104, 105, 115, 32, 115, 117, 112, 101, 114]⟩) (by decide) w fun W g o L2 B2 hn hB hb => expr_word (lfN 6 s) g o L2 B2 W _ hn hB rfl hne (own_word (lfN 6 s) g o L2 B2 W _ hn hB rfl rfl (fun W2 hb2 => among_any s ⟨#[110, 117, 108, 108, 32, 116, 114, 117, 101, 32, 102, 97, 108, 115, 101, 32, 116, 104, 105, 115, 32, 115, 117, 112, 101, 114]⟩ W2 (by decide) (asc_of (by decide +kernel)) (by decide +kernel) ((hX.bel hb).bel hb2)))
theorem chk_meta (s : ByteArray) (w : World) (hX : Lx w) :
    Calls Tryz.prog 19 #[.agg #[.int .i64 7, .string s, .slice none 0 0, .int .i64 0, .int .i64 0]] w fun e w' => e = .returned (.int .i64 (if amongB s ⟨#[110, 101, 119, 46, 116, 97, 114, 103, 101, 116, 32, 105, 109, 112, 111, 114, 116, 46, 109, 101, 116, 97]⟩ then 0 else 800)) ∧ Below w.heap.size w w' :=
  leaf_check 7 s (amongB s ⟨#[110, 101, 119, 46, 116, 97, 114, 103, 101, 116, 32, 105, 109, 112, 111, 114, 116, 46, 109, 101, 116, 97]⟩) (by decide) w fun W g o L2 B2 hn hB hb => expr_7 (lfN 7 s) g o L2 B2 W _ hn hB rfl (own_meta (lfN 7 s) g o L2 B2 W _ hn hB rfl rfl (fun W2 hb2 => among_any s ⟨#[110, 101, 119, 46, 116, 97, 114, 103, 101, 116, 32, 105, 109, 112, 111, 114, 116, 46, 109, 101, 116, 97]⟩ W2 (by decide) (asc_of (by decide +kernel)) (by decide +kernel) ((hX.bel hb).bel hb2)))
theorem chk_priv (s : ByteArray) (w : World) :
    Calls Tryz.prog 19 #[.agg #[.int .i64 2, .string s, .slice none 0 0, .int .i64 0, .int .i64 0]] w fun e w' => e = .returned (.int .i64 (if false then 0 else 800)) ∧ Below w.heap.size w w' :=
  leaf_check 2 s false (by decide) w fun W g o L2 B2 hn hB _ => expr_priv (lfN 2 s) g o L2 B2 W hn hB rfl
/-- the texts, the kinds, which go together. -/
def kTexts : List ByteArray := [⟨#[97]⟩, ⟨#[108, 101, 116]⟩, ⟨#[35, 97]⟩, ⟨#[49]⟩, ⟨#[49, 110]⟩, ⟨#[39, 97, 39]⟩, ⟨#[47, 97, 47]⟩, ⟨#[116, 104, 105, 115]⟩, ⟨#[110, 101, 119, 46, 116, 97, 114, 103, 101, 116]⟩, ⟨#[97, 119, 97, 105, 116]⟩, ⟨#[115, 117, 112, 101, 114]⟩, ⟨#[97, 32, 98]⟩, ⟨#[]⟩, ⟨#[117, 110, 100, 101, 102, 105, 110, 101, 100]⟩]
def kKinds : List Int := [1, 3, 4, 5, 6, 7, 2]
def kFine (i j : Nat) : Bool := ([[true, false, false, false, false, false, false], [false, false, false, false, false, false, false], [false, false, false, false, false, false, false], [false, true, false, false, false, false, false], [false, true, false, false, false, false, false], [false, false, true, false, false, false, false], [false, false, false, true, false, false, false], [false, false, false, false, true, false, false], [false, false, false, false, false, true, false], [true, false, false, false, false, false, false], [false, false, false, false, false, false, false], [false, false, false, false, false, false, false], [false, false, false, false, false, false, false], [true, false, false, false, false, false, false]].getD i []).getD j false
theorem tab_0 (w : World) (_hX : Lx w) : ∀ i, (h : i < kTexts.length) → Calls Tryz.prog 19 #[.agg #[.int .i64 1, .string kTexts[i], .slice none 0 0, .int .i64 0, .int .i64 0]] w fun e w' => e = .returned (.int .i64 (if kFine i 0 then 0 else 800)) ∧ Below w.heap.size w w' := by
  intro i h
  match i, h with
  | 0, _ => exact chk_ident ⟨#[97]⟩ true false (by decide) (by decide +kernel) (fun hv w => reserved_RA w) w
  | 1, _ => exact chk_ident ⟨#[108, 101, 116]⟩ true true (by decide) (by decide +kernel) (fun hv w => reserved_RLet w) w
  | 2, _ => exact chk_ident ⟨#[35, 97]⟩ false false (by decide) (by decide +kernel) (fun hv w => by cases hv) w
  | 3, _ => exact chk_ident ⟨#[49]⟩ false false (by decide) (by decide +kernel) (fun hv w => by cases hv) w
  | 4, _ => exact chk_ident ⟨#[49, 110]⟩ false false (by decide) (by decide +kernel) (fun hv w => by cases hv) w
  | 5, _ => exact chk_ident ⟨#[39, 97, 39]⟩ false false (by decide) (by decide +kernel) (fun hv w => by cases hv) w
  | 6, _ => exact chk_ident ⟨#[47, 97, 47]⟩ false false (by decide) (by decide +kernel) (fun hv w => by cases hv) w
  | 7, _ => exact chk_ident ⟨#[116, 104, 105, 115]⟩ true true (by decide) (by decide +kernel) (fun hv w => reserved_RThis w) w
  | 8, _ => exact chk_ident ⟨#[110, 101, 119, 46, 116, 97, 114, 103, 101, 116]⟩ false false (by decide) (by decide +kernel) (fun hv w => by cases hv) w
  | 9, _ => exact chk_ident ⟨#[97, 119, 97, 105, 116]⟩ true false (by decide) (by decide +kernel) (fun hv w => reserved_RAwait w) w
  | 10, _ => exact chk_ident ⟨#[115, 117, 112, 101, 114]⟩ true true (by decide) (by decide +kernel) (fun hv w => reserved_RSuper w) w
  | 11, _ => exact chk_ident ⟨#[97, 32, 98]⟩ false false (by decide) (by decide +kernel) (fun hv w => by cases hv) w
  | 12, _ => exact chk_ident ⟨#[]⟩ false false (by decide) (by decide +kernel) (fun hv w => by cases hv) w
  | 13, _ => exact chk_ident ⟨#[117, 110, 100, 101, 102, 105, 110, 101, 100]⟩ true false (by decide) (by decide +kernel) (fun hv w => reserved_RUndef w) w
  | i + 14, h => exact absurd h (by simp [kTexts])
theorem tab_1 (w : World) (hX : Lx w) : ∀ i, (h : i < kTexts.length) → Calls Tryz.prog 19 #[.agg #[.int .i64 3, .string kTexts[i], .slice none 0 0, .int .i64 0, .int .i64 0]] w fun e w' => e = .returned (.int .i64 (if kFine i 1 then 0 else 800)) ∧ Below w.heap.size w w' := by
  intro i h
  match i, h with
  | 0, _ =>
    have h := chk_num ⟨#[97]⟩ (by decide) w hX
    rw [show (readB ⟨#[97]⟩).2 = false by with_unfolding_all rfl] at h
    exact h
  | 1, _ =>
    have h := chk_num ⟨#[108, 101, 116]⟩ (by decide) w hX
    rw [show (readB ⟨#[108, 101, 116]⟩).2 = false by with_unfolding_all rfl] at h
    exact h
  | 2, _ =>
    have h := chk_num ⟨#[35, 97]⟩ (by decide) w hX
    rw [show (readB ⟨#[35, 97]⟩).2 = false by with_unfolding_all rfl] at h
    exact h
  | 3, _ =>
    have h := chk_num ⟨#[49]⟩ (by decide) w hX
    rw [show (readB ⟨#[49]⟩).2 = true by with_unfolding_all rfl] at h
    exact h
  | 4, _ =>
    have h := chk_num ⟨#[49, 110]⟩ (by decide) w hX
    rw [show (readB ⟨#[49, 110]⟩).2 = true by with_unfolding_all rfl] at h
    exact h
  | 5, _ =>
    have h := chk_num ⟨#[39, 97, 39]⟩ (by decide) w hX
    rw [show (readB ⟨#[39, 97, 39]⟩).2 = false by with_unfolding_all rfl] at h
    exact h
  | 6, _ =>
    have h := chk_num ⟨#[47, 97, 47]⟩ (by decide) w hX
    rw [show (readB ⟨#[47, 97, 47]⟩).2 = false by with_unfolding_all rfl] at h
    exact h
  | 7, _ =>
    have h := chk_num ⟨#[116, 104, 105, 115]⟩ (by decide) w hX
    rw [show (readB ⟨#[116, 104, 105, 115]⟩).2 = false by with_unfolding_all rfl] at h
    exact h
  | 8, _ =>
    have h := chk_num ⟨#[110, 101, 119, 46, 116, 97, 114, 103, 101, 116]⟩ (by decide) w hX
    rw [show (readB ⟨#[110, 101, 119, 46, 116, 97, 114, 103, 101, 116]⟩).2 = false by with_unfolding_all rfl] at h
    exact h
  | 9, _ =>
    have h := chk_num ⟨#[97, 119, 97, 105, 116]⟩ (by decide) w hX
    rw [show (readB ⟨#[97, 119, 97, 105, 116]⟩).2 = false by with_unfolding_all rfl] at h
    exact h
  | 10, _ =>
    have h := chk_num ⟨#[115, 117, 112, 101, 114]⟩ (by decide) w hX
    rw [show (readB ⟨#[115, 117, 112, 101, 114]⟩).2 = false by with_unfolding_all rfl] at h
    exact h
  | 11, _ =>
    have h := chk_num ⟨#[97, 32, 98]⟩ (by decide) w hX
    rw [show (readB ⟨#[97, 32, 98]⟩).2 = false by with_unfolding_all rfl] at h
    exact h
  | 12, _ =>
    have h := chk_num ⟨#[]⟩ (by decide) w hX
    rw [show (readB ⟨#[]⟩).2 = false by with_unfolding_all rfl] at h
    exact h
  | 13, _ =>
    have h := chk_num ⟨#[117, 110, 100, 101, 102, 105, 110, 101, 100]⟩ (by decide) w hX
    rw [show (readB ⟨#[117, 110, 100, 101, 102, 105, 110, 101, 100]⟩).2 = false by with_unfolding_all rfl] at h
    exact h
  | i + 14, h => exact absurd h (by simp [kTexts])
theorem tab_2 (w : World) (hX : Lx w) : ∀ i, (h : i < kTexts.length) → Calls Tryz.prog 19 #[.agg #[.int .i64 4, .string kTexts[i], .slice none 0 0, .int .i64 0, .int .i64 0]] w fun e w' => e = .returned (.int .i64 (if kFine i 2 then 0 else 800)) ∧ Below w.heap.size w w' := by
  intro i h
  match i, h with
  | 0, _ =>
    have h := chk_str ⟨#[97]⟩ (by decide) w hX
    rw [show (strC (⟨#[97]⟩ : ByteArray).data.toList).1 = false by decide +kernel] at h
    exact h
  | 1, _ =>
    have h := chk_str ⟨#[108, 101, 116]⟩ (by decide) w hX
    rw [show (strC (⟨#[108, 101, 116]⟩ : ByteArray).data.toList).1 = false by decide +kernel] at h
    exact h
  | 2, _ =>
    have h := chk_str ⟨#[35, 97]⟩ (by decide) w hX
    rw [show (strC (⟨#[35, 97]⟩ : ByteArray).data.toList).1 = false by decide +kernel] at h
    exact h
  | 3, _ =>
    have h := chk_str ⟨#[49]⟩ (by decide) w hX
    rw [show (strC (⟨#[49]⟩ : ByteArray).data.toList).1 = false by decide +kernel] at h
    exact h
  | 4, _ =>
    have h := chk_str ⟨#[49, 110]⟩ (by decide) w hX
    rw [show (strC (⟨#[49, 110]⟩ : ByteArray).data.toList).1 = false by decide +kernel] at h
    exact h
  | 5, _ =>
    have h := chk_str ⟨#[39, 97, 39]⟩ (by decide) w hX
    rw [show (strC (⟨#[39, 97, 39]⟩ : ByteArray).data.toList).1 = true by decide +kernel] at h
    exact h
  | 6, _ =>
    have h := chk_str ⟨#[47, 97, 47]⟩ (by decide) w hX
    rw [show (strC (⟨#[47, 97, 47]⟩ : ByteArray).data.toList).1 = false by decide +kernel] at h
    exact h
  | 7, _ =>
    have h := chk_str ⟨#[116, 104, 105, 115]⟩ (by decide) w hX
    rw [show (strC (⟨#[116, 104, 105, 115]⟩ : ByteArray).data.toList).1 = false by decide +kernel] at h
    exact h
  | 8, _ =>
    have h := chk_str ⟨#[110, 101, 119, 46, 116, 97, 114, 103, 101, 116]⟩ (by decide) w hX
    rw [show (strC (⟨#[110, 101, 119, 46, 116, 97, 114, 103, 101, 116]⟩ : ByteArray).data.toList).1 = false by decide +kernel] at h
    exact h
  | 9, _ =>
    have h := chk_str ⟨#[97, 119, 97, 105, 116]⟩ (by decide) w hX
    rw [show (strC (⟨#[97, 119, 97, 105, 116]⟩ : ByteArray).data.toList).1 = false by decide +kernel] at h
    exact h
  | 10, _ =>
    have h := chk_str ⟨#[115, 117, 112, 101, 114]⟩ (by decide) w hX
    rw [show (strC (⟨#[115, 117, 112, 101, 114]⟩ : ByteArray).data.toList).1 = false by decide +kernel] at h
    exact h
  | 11, _ =>
    have h := chk_str ⟨#[97, 32, 98]⟩ (by decide) w hX
    rw [show (strC (⟨#[97, 32, 98]⟩ : ByteArray).data.toList).1 = false by decide +kernel] at h
    exact h
  | 12, _ =>
    have h := chk_str ⟨#[]⟩ (by decide) w hX
    rw [show (strC (⟨#[]⟩ : ByteArray).data.toList).1 = false by decide +kernel] at h
    exact h
  | 13, _ =>
    have h := chk_str ⟨#[117, 110, 100, 101, 102, 105, 110, 101, 100]⟩ (by decide) w hX
    rw [show (strC (⟨#[117, 110, 100, 101, 102, 105, 110, 101, 100]⟩ : ByteArray).data.toList).1 = false by decide +kernel] at h
    exact h
  | i + 14, h => exact absurd h (by simp [kTexts])
theorem tab_3 (w : World) (hX : Lx w) : ∀ i, (h : i < kTexts.length) → Calls Tryz.prog 19 #[.agg #[.int .i64 5, .string kTexts[i], .slice none 0 0, .int .i64 0, .int .i64 0]] w fun e w' => e = .returned (.int .i64 (if kFine i 3 then 0 else 800)) ∧ Below w.heap.size w w' := by
  intro i h
  match i, h with
  | 0, _ =>
    have h := chk_regex ⟨#[97]⟩ (by decide) w hX
    rw [show tokB ⟨#[97]⟩ 2 6 = false by decide +kernel] at h
    exact h
  | 1, _ =>
    have h := chk_regex ⟨#[108, 101, 116]⟩ (by decide) w hX
    rw [show tokB ⟨#[108, 101, 116]⟩ 2 6 = false by decide +kernel] at h
    exact h
  | 2, _ =>
    have h := chk_regex ⟨#[35, 97]⟩ (by decide) w hX
    rw [show tokB ⟨#[35, 97]⟩ 2 6 = false by decide +kernel] at h
    exact h
  | 3, _ =>
    have h := chk_regex ⟨#[49]⟩ (by decide) w hX
    rw [show tokB ⟨#[49]⟩ 2 6 = false by decide +kernel] at h
    exact h
  | 4, _ =>
    have h := chk_regex ⟨#[49, 110]⟩ (by decide) w hX
    rw [show tokB ⟨#[49, 110]⟩ 2 6 = false by decide +kernel] at h
    exact h
  | 5, _ =>
    have h := chk_regex ⟨#[39, 97, 39]⟩ (by decide) w hX
    rw [show tokB ⟨#[39, 97, 39]⟩ 2 6 = false by decide +kernel] at h
    exact h
  | 6, _ =>
    have h := chk_regex ⟨#[47, 97, 47]⟩ (by decide) w hX
    rw [show tokB ⟨#[47, 97, 47]⟩ 2 6 = true by decide +kernel] at h
    exact h
  | 7, _ =>
    have h := chk_regex ⟨#[116, 104, 105, 115]⟩ (by decide) w hX
    rw [show tokB ⟨#[116, 104, 105, 115]⟩ 2 6 = false by decide +kernel] at h
    exact h
  | 8, _ =>
    have h := chk_regex ⟨#[110, 101, 119, 46, 116, 97, 114, 103, 101, 116]⟩ (by decide) w hX
    rw [show tokB ⟨#[110, 101, 119, 46, 116, 97, 114, 103, 101, 116]⟩ 2 6 = false by decide +kernel] at h
    exact h
  | 9, _ =>
    have h := chk_regex ⟨#[97, 119, 97, 105, 116]⟩ (by decide) w hX
    rw [show tokB ⟨#[97, 119, 97, 105, 116]⟩ 2 6 = false by decide +kernel] at h
    exact h
  | 10, _ =>
    have h := chk_regex ⟨#[115, 117, 112, 101, 114]⟩ (by decide) w hX
    rw [show tokB ⟨#[115, 117, 112, 101, 114]⟩ 2 6 = false by decide +kernel] at h
    exact h
  | 11, _ =>
    have h := chk_regex ⟨#[97, 32, 98]⟩ (by decide) w hX
    rw [show tokB ⟨#[97, 32, 98]⟩ 2 6 = false by decide +kernel] at h
    exact h
  | 12, _ =>
    have h := chk_regex ⟨#[]⟩ (by decide) w hX
    rw [show tokB ⟨#[]⟩ 2 6 = false by decide +kernel] at h
    exact h
  | 13, _ =>
    have h := chk_regex ⟨#[117, 110, 100, 101, 102, 105, 110, 101, 100]⟩ (by decide) w hX
    rw [show tokB ⟨#[117, 110, 100, 101, 102, 105, 110, 101, 100]⟩ 2 6 = false by decide +kernel] at h
    exact h
  | i + 14, h => exact absurd h (by simp [kTexts])
theorem tab_4 (w : World) (hX : Lx w) : ∀ i, (h : i < kTexts.length) → Calls Tryz.prog 19 #[.agg #[.int .i64 6, .string kTexts[i], .slice none 0 0, .int .i64 0, .int .i64 0]] w fun e w' => e = .returned (.int .i64 (if kFine i 4 then 0 else 800)) ∧ Below w.heap.size w w' := by
  intro i h
  match i, h with
  | 0, _ =>
    have h := chk_word ⟨#[97]⟩ w hX (by decide)
    rw [show amongB ⟨#[97]⟩ ⟨#[110, 117, 108, 108, 32, 116, 114, 117, 101, 32, 102, 97, 108, 115, 101, 32, 116, 104, 105, 115, 32, 115, 117, 112, 101, 114]⟩ = false by decide +kernel] at h
    exact h
  | 1, _ =>
    have h := chk_word ⟨#[108, 101, 116]⟩ w hX (by decide)
    rw [show amongB ⟨#[108, 101, 116]⟩ ⟨#[110, 117, 108, 108, 32, 116, 114, 117, 101, 32, 102, 97, 108, 115, 101, 32, 116, 104, 105, 115, 32, 115, 117, 112, 101, 114]⟩ = false by decide +kernel] at h
    exact h
  | 2, _ =>
    have h := chk_word ⟨#[35, 97]⟩ w hX (by decide)
    rw [show amongB ⟨#[35, 97]⟩ ⟨#[110, 117, 108, 108, 32, 116, 114, 117, 101, 32, 102, 97, 108, 115, 101, 32, 116, 104, 105, 115, 32, 115, 117, 112, 101, 114]⟩ = false by decide +kernel] at h
    exact h
  | 3, _ =>
    have h := chk_word ⟨#[49]⟩ w hX (by decide)
    rw [show amongB ⟨#[49]⟩ ⟨#[110, 117, 108, 108, 32, 116, 114, 117, 101, 32, 102, 97, 108, 115, 101, 32, 116, 104, 105, 115, 32, 115, 117, 112, 101, 114]⟩ = false by decide +kernel] at h
    exact h
  | 4, _ =>
    have h := chk_word ⟨#[49, 110]⟩ w hX (by decide)
    rw [show amongB ⟨#[49, 110]⟩ ⟨#[110, 117, 108, 108, 32, 116, 114, 117, 101, 32, 102, 97, 108, 115, 101, 32, 116, 104, 105, 115, 32, 115, 117, 112, 101, 114]⟩ = false by decide +kernel] at h
    exact h
  | 5, _ =>
    have h := chk_word ⟨#[39, 97, 39]⟩ w hX (by decide)
    rw [show amongB ⟨#[39, 97, 39]⟩ ⟨#[110, 117, 108, 108, 32, 116, 114, 117, 101, 32, 102, 97, 108, 115, 101, 32, 116, 104, 105, 115, 32, 115, 117, 112, 101, 114]⟩ = false by decide +kernel] at h
    exact h
  | 6, _ =>
    have h := chk_word ⟨#[47, 97, 47]⟩ w hX (by decide)
    rw [show amongB ⟨#[47, 97, 47]⟩ ⟨#[110, 117, 108, 108, 32, 116, 114, 117, 101, 32, 102, 97, 108, 115, 101, 32, 116, 104, 105, 115, 32, 115, 117, 112, 101, 114]⟩ = false by decide +kernel] at h
    exact h
  | 7, _ =>
    have h := chk_word ⟨#[116, 104, 105, 115]⟩ w hX (by decide)
    rw [show amongB ⟨#[116, 104, 105, 115]⟩ ⟨#[110, 117, 108, 108, 32, 116, 114, 117, 101, 32, 102, 97, 108, 115, 101, 32, 116, 104, 105, 115, 32, 115, 117, 112, 101, 114]⟩ = true by decide +kernel] at h
    exact h
  | 8, _ =>
    have h := chk_word ⟨#[110, 101, 119, 46, 116, 97, 114, 103, 101, 116]⟩ w hX (by decide)
    rw [show amongB ⟨#[110, 101, 119, 46, 116, 97, 114, 103, 101, 116]⟩ ⟨#[110, 117, 108, 108, 32, 116, 114, 117, 101, 32, 102, 97, 108, 115, 101, 32, 116, 104, 105, 115, 32, 115, 117, 112, 101, 114]⟩ = false by decide +kernel] at h
    exact h
  | 9, _ =>
    have h := chk_word ⟨#[97, 119, 97, 105, 116]⟩ w hX (by decide)
    rw [show amongB ⟨#[97, 119, 97, 105, 116]⟩ ⟨#[110, 117, 108, 108, 32, 116, 114, 117, 101, 32, 102, 97, 108, 115, 101, 32, 116, 104, 105, 115, 32, 115, 117, 112, 101, 114]⟩ = false by decide +kernel] at h
    exact h
  | 10, _ => exact chk_super w
  | 11, _ =>
    have h := chk_word ⟨#[97, 32, 98]⟩ w hX (by decide)
    rw [show amongB ⟨#[97, 32, 98]⟩ ⟨#[110, 117, 108, 108, 32, 116, 114, 117, 101, 32, 102, 97, 108, 115, 101, 32, 116, 104, 105, 115, 32, 115, 117, 112, 101, 114]⟩ = false by decide +kernel] at h
    exact h
  | 12, _ =>
    have h := chk_word ⟨#[]⟩ w hX (by decide)
    rw [show amongB ⟨#[]⟩ ⟨#[110, 117, 108, 108, 32, 116, 114, 117, 101, 32, 102, 97, 108, 115, 101, 32, 116, 104, 105, 115, 32, 115, 117, 112, 101, 114]⟩ = false by decide +kernel] at h
    exact h
  | 13, _ =>
    have h := chk_word ⟨#[117, 110, 100, 101, 102, 105, 110, 101, 100]⟩ w hX (by decide)
    rw [show amongB ⟨#[117, 110, 100, 101, 102, 105, 110, 101, 100]⟩ ⟨#[110, 117, 108, 108, 32, 116, 114, 117, 101, 32, 102, 97, 108, 115, 101, 32, 116, 104, 105, 115, 32, 115, 117, 112, 101, 114]⟩ = false by decide +kernel] at h
    exact h
  | i + 14, h => exact absurd h (by simp [kTexts])
theorem tab_5 (w : World) (hX : Lx w) : ∀ i, (h : i < kTexts.length) → Calls Tryz.prog 19 #[.agg #[.int .i64 7, .string kTexts[i], .slice none 0 0, .int .i64 0, .int .i64 0]] w fun e w' => e = .returned (.int .i64 (if kFine i 5 then 0 else 800)) ∧ Below w.heap.size w w' := by
  intro i h
  match i, h with
  | 0, _ =>
    have h := chk_meta ⟨#[97]⟩ w hX
    rw [show amongB ⟨#[97]⟩ ⟨#[110, 101, 119, 46, 116, 97, 114, 103, 101, 116, 32, 105, 109, 112, 111, 114, 116, 46, 109, 101, 116, 97]⟩ = false by decide +kernel] at h
    exact h
  | 1, _ =>
    have h := chk_meta ⟨#[108, 101, 116]⟩ w hX
    rw [show amongB ⟨#[108, 101, 116]⟩ ⟨#[110, 101, 119, 46, 116, 97, 114, 103, 101, 116, 32, 105, 109, 112, 111, 114, 116, 46, 109, 101, 116, 97]⟩ = false by decide +kernel] at h
    exact h
  | 2, _ =>
    have h := chk_meta ⟨#[35, 97]⟩ w hX
    rw [show amongB ⟨#[35, 97]⟩ ⟨#[110, 101, 119, 46, 116, 97, 114, 103, 101, 116, 32, 105, 109, 112, 111, 114, 116, 46, 109, 101, 116, 97]⟩ = false by decide +kernel] at h
    exact h
  | 3, _ =>
    have h := chk_meta ⟨#[49]⟩ w hX
    rw [show amongB ⟨#[49]⟩ ⟨#[110, 101, 119, 46, 116, 97, 114, 103, 101, 116, 32, 105, 109, 112, 111, 114, 116, 46, 109, 101, 116, 97]⟩ = false by decide +kernel] at h
    exact h
  | 4, _ =>
    have h := chk_meta ⟨#[49, 110]⟩ w hX
    rw [show amongB ⟨#[49, 110]⟩ ⟨#[110, 101, 119, 46, 116, 97, 114, 103, 101, 116, 32, 105, 109, 112, 111, 114, 116, 46, 109, 101, 116, 97]⟩ = false by decide +kernel] at h
    exact h
  | 5, _ =>
    have h := chk_meta ⟨#[39, 97, 39]⟩ w hX
    rw [show amongB ⟨#[39, 97, 39]⟩ ⟨#[110, 101, 119, 46, 116, 97, 114, 103, 101, 116, 32, 105, 109, 112, 111, 114, 116, 46, 109, 101, 116, 97]⟩ = false by decide +kernel] at h
    exact h
  | 6, _ =>
    have h := chk_meta ⟨#[47, 97, 47]⟩ w hX
    rw [show amongB ⟨#[47, 97, 47]⟩ ⟨#[110, 101, 119, 46, 116, 97, 114, 103, 101, 116, 32, 105, 109, 112, 111, 114, 116, 46, 109, 101, 116, 97]⟩ = false by decide +kernel] at h
    exact h
  | 7, _ =>
    have h := chk_meta ⟨#[116, 104, 105, 115]⟩ w hX
    rw [show amongB ⟨#[116, 104, 105, 115]⟩ ⟨#[110, 101, 119, 46, 116, 97, 114, 103, 101, 116, 32, 105, 109, 112, 111, 114, 116, 46, 109, 101, 116, 97]⟩ = false by decide +kernel] at h
    exact h
  | 8, _ =>
    have h := chk_meta ⟨#[110, 101, 119, 46, 116, 97, 114, 103, 101, 116]⟩ w hX
    rw [show amongB ⟨#[110, 101, 119, 46, 116, 97, 114, 103, 101, 116]⟩ ⟨#[110, 101, 119, 46, 116, 97, 114, 103, 101, 116, 32, 105, 109, 112, 111, 114, 116, 46, 109, 101, 116, 97]⟩ = true by decide +kernel] at h
    exact h
  | 9, _ =>
    have h := chk_meta ⟨#[97, 119, 97, 105, 116]⟩ w hX
    rw [show amongB ⟨#[97, 119, 97, 105, 116]⟩ ⟨#[110, 101, 119, 46, 116, 97, 114, 103, 101, 116, 32, 105, 109, 112, 111, 114, 116, 46, 109, 101, 116, 97]⟩ = false by decide +kernel] at h
    exact h
  | 10, _ =>
    have h := chk_meta ⟨#[115, 117, 112, 101, 114]⟩ w hX
    rw [show amongB ⟨#[115, 117, 112, 101, 114]⟩ ⟨#[110, 101, 119, 46, 116, 97, 114, 103, 101, 116, 32, 105, 109, 112, 111, 114, 116, 46, 109, 101, 116, 97]⟩ = false by decide +kernel] at h
    exact h
  | 11, _ =>
    have h := chk_meta ⟨#[97, 32, 98]⟩ w hX
    rw [show amongB ⟨#[97, 32, 98]⟩ ⟨#[110, 101, 119, 46, 116, 97, 114, 103, 101, 116, 32, 105, 109, 112, 111, 114, 116, 46, 109, 101, 116, 97]⟩ = false by decide +kernel] at h
    exact h
  | 12, _ =>
    have h := chk_meta ⟨#[]⟩ w hX
    rw [show amongB ⟨#[]⟩ ⟨#[110, 101, 119, 46, 116, 97, 114, 103, 101, 116, 32, 105, 109, 112, 111, 114, 116, 46, 109, 101, 116, 97]⟩ = false by decide +kernel] at h
    exact h
  | 13, _ =>
    have h := chk_meta ⟨#[117, 110, 100, 101, 102, 105, 110, 101, 100]⟩ w hX
    rw [show amongB ⟨#[117, 110, 100, 101, 102, 105, 110, 101, 100]⟩ ⟨#[110, 101, 119, 46, 116, 97, 114, 103, 101, 116, 32, 105, 109, 112, 111, 114, 116, 46, 109, 101, 116, 97]⟩ = false by decide +kernel] at h
    exact h
  | i + 14, h => exact absurd h (by simp [kTexts])
theorem tab_6 (w : World) (_hX : Lx w) : ∀ i, (h : i < kTexts.length) → Calls Tryz.prog 19 #[.agg #[.int .i64 2, .string kTexts[i], .slice none 0 0, .int .i64 0, .int .i64 0]] w fun e w' => e = .returned (.int .i64 (if kFine i 6 then 0 else 800)) ∧ Below w.heap.size w w' := by
  intro i h
  match i, h with
  | 0, _ => exact chk_priv ⟨#[97]⟩ w
  | 1, _ => exact chk_priv ⟨#[108, 101, 116]⟩ w
  | 2, _ => exact chk_priv ⟨#[35, 97]⟩ w
  | 3, _ => exact chk_priv ⟨#[49]⟩ w
  | 4, _ => exact chk_priv ⟨#[49, 110]⟩ w
  | 5, _ => exact chk_priv ⟨#[39, 97, 39]⟩ w
  | 6, _ => exact chk_priv ⟨#[47, 97, 47]⟩ w
  | 7, _ => exact chk_priv ⟨#[116, 104, 105, 115]⟩ w
  | 8, _ => exact chk_priv ⟨#[110, 101, 119, 46, 116, 97, 114, 103, 101, 116]⟩ w
  | 9, _ => exact chk_priv ⟨#[97, 119, 97, 105, 116]⟩ w
  | 10, _ => exact chk_priv ⟨#[115, 117, 112, 101, 114]⟩ w
  | 11, _ => exact chk_priv ⟨#[97, 32, 98]⟩ w
  | 12, _ => exact chk_priv ⟨#[]⟩ w
  | 13, _ => exact chk_priv ⟨#[117, 110, 100, 101, 102, 105, 110, 101, 100]⟩ w
  | i + 14, h => exact absurd h (by simp [kTexts])
end Go.Proofs.YteejjkfmmhegmaaGreatDoor
