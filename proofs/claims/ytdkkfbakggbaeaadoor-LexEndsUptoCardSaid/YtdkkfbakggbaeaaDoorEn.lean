/- LexEnds' function answers true: two tokens with a blank between are both. Conditions: the library's tables; at most 2^22 bytes each. -/
import Derived.Test.YtdkkfbakggbaeaaDoorEq
namespace Go.Proofs.YtdkkfbakggbaeaaDoor
open Go.RowKit

theorem ends_list (s t : ByteArray) : (s ++ ⟨#[32]⟩ ++ t : ByteArray).data.toList = s.data.toList ++ 32 :: t.data.toList := by simp [ByteArray.data_append]
theorem ends_size (s t : ByteArray) : (s ++ ⟨#[32]⟩ ++ t : ByteArray).size = s.size + 1 + t.size := by simp only [ByteArray.size_append]; rfl
set_option maxRecDepth 20000 in
set_option maxHeartbeats 8000000 in
theorem ends_bad1 (s t : ByteArray) (w : World) (hs : s.size ≤ 4194304) (ht : t.size ≤ 4194304) (hX : Lx w) (place code : Int) (hc : code ≠ 0) (hO : nxt s 0 1 = .bad place code) :
    Calls Tryd.prog 5 #[.string s, .string t] w fun e w' => e = .returned (.bool true) ∧ Below w.heap.size w w' := by
  have hN := fun W h => Next_any s 0 1 W (by omega) (Nat.zero_le _) h 0 rfl
  rw [hO] at hN
  simp only [NxPost, Tk.val, Tk.cells, Tk.zero] at hN
  have HN := Lib.hid hN
  have bc : (code != 0) = true := by rw [bne_iff_ne]; exact hc
  have HM := Lib.hid (fun W h => next_gen t 0 1 W (by omega) (Nat.zero_le _) h 0 rfl)
  have HA := Lib.hid (lawake_any w hX)
  have HX := Lib.hid hX
  clear hX hN hO hc
  go_enter Tryd.func5, Tryd.ntmps5
  go_upto_region 3 with (go_at_call 13; refine HA.out.mono ?_; rintro e w1 ⟨rfl, hb1⟩)
  go_upto_region 4 with (go_at_call 14; refine (HN.out _ (HX.out.bel hb1)).mono ?_; rintro e w2 ⟨rfl, hb2⟩)
  have hb := (bel_next hb1 hb2).alloc (bel_next hb1 hb2).size (.cells #[.int .i64 0, .string ⟨#[]⟩, .int .i64 0, .int .i64 0, .bool false] 24)
  generalize World.alloc w2 _ = w3 at *
  generalize w2.heap.size = g at *
  clear hb1 hb2
  go_upto_region 5 with (go_at_call 14; refine (HM.out _ (HX.out.bel hb)).mono ?_; rintro e w4 ⟨kind, text, from', till, line, vp, n, cap, place2, code2, rfl, hb4⟩)
  replace hb := (bel_next hb hb4).alloc (bel_next hb hb4).size (.cells #[.int .i64 kind, .string text, .int .i64 from', .int .i64 till, .bool line] 24)
  generalize World.alloc w4 _ = w5 at *
  generalize w4.heap.size = g2 at *
  clear hb4
  go_wp2_with (go_at_call 15; refine (lnum_any _ _).mono ?_; rintro e w' ⟨rfl, rfl⟩)
  go_ret
  exact ⟨rfl, hb⟩
set_option maxRecDepth 20000 in
set_option maxHeartbeats 8000000 in
theorem ends_bad2 (s t : ByteArray) (w : World) (hs : s.size ≤ 4194304) (ht : t.size ≤ 4194304) (hX : Lx w) (kind : Int) (q n : Nat) (line : Bool) (cs : List Cm) (hO : nxt s 0 1 = .fine kind q n line cs) (place code : Int) (hc : code ≠ 0) (hO2 : nxt t 0 1 = .bad place code) :
    Calls Tryd.prog 5 #[.string s, .string t] w fun e w' => e = .returned (.bool true) ∧ Below w.heap.size w w' := by
  have hN := fun W h => Next_any s 0 1 W (by omega) (Nat.zero_le _) h 0 rfl
  rw [hO] at hN
  simp only [NxPost, Tk.val, Tk.cells] at hN
  have HN := Lib.hid hN
  have hM := fun W h => Next_any t 0 1 W (by omega) (Nat.zero_le _) h 0 rfl
  rw [hO2] at hM
  simp only [NxPost, Tk.val, Tk.cells, Tk.zero] at hM
  have HM := Lib.hid hM
  have bc : (code != 0) = true := by rw [bne_iff_ne]; exact hc
  have HA := Lib.hid (lawake_any w hX)
  have HX := Lib.hid hX
  clear hX hN hO hM hO2 hc
  go_enter Tryd.func5, Tryd.ntmps5
  go_upto_region 3 with (go_at_call 13; refine HA.out.mono ?_; rintro e w1 ⟨rfl, hb1⟩)
  go_upto_region 4 with (go_at_call 14; refine (HN.out _ (HX.out.bel hb1)).mono ?_; rintro e w2 ⟨v, rfl, ho, hb2⟩; obtain ⟨vp, cap, rfl⟩ := ho.form; clear ho)
  have hb := (bel_next hb1 hb2).alloc (bel_next hb1 hb2).size (.cells #[.int .i64 kind, .string (s.extract q (q + n)), .int .i64 (q : Int), .int .i64 ((q : Int) + (n : Int)), .bool line] 24)
  generalize World.alloc w2 _ = w3 at *
  generalize w2.heap.size = g at *
  clear hb1 hb2
  go_upto_region 5 with (go_at_call 14; refine (HM.out _ (HX.out.bel hb)).mono ?_; rintro e w4 ⟨rfl, hb4⟩)
  replace hb := (bel_next hb hb4).alloc (bel_next hb hb4).size (.cells #[.int .i64 0, .string ⟨#[]⟩, .int .i64 0, .int .i64 0, .bool false] 24)
  generalize World.alloc w4 _ = w5 at *
  generalize w4.heap.size = g2 at *
  clear hb4
  go_wp2_with (go_at_call 15; refine (lnum_any _ _).mono ?_; rintro e w' ⟨rfl, rfl⟩)
  go_ret
  exact ⟨rfl, hb⟩
set_option maxRecDepth 20000 in
set_option maxHeartbeats 8000000 in
theorem ends_skip (s t : ByteArray) (w : World) (hs : s.size ≤ 4194304) (ht : t.size ≤ 4194304) (hX : Lx w) (kind : Int) (q n : Nat) (line : Bool) (cs : List Cm) (hO : nxt s 0 1 = .fine kind q n line cs) (kind2 : Int) (q2 n2 : Nat) (line2 : Bool) (ds : List Cm) (hO2 : nxt t 0 1 = .fine kind2 q2 n2 line2 ds) (hc : ¬ (cs.length = 0 ∧ ds.length = 0 ∧ q = 0 ∧ s.extract q (q + n) = s ∧ kind ≠ 0 ∧ q2 = 0)) :
    Calls Tryd.prog 5 #[.string s, .string t] w fun e w' => e = .returned (.bool true) ∧ Below w.heap.size w w' := by
  have hN := fun W h => Next_any s 0 1 W (by omega) (Nat.zero_le _) h 0 rfl
  rw [hO] at hN
  simp only [NxPost, Tk.val, Tk.cells] at hN
  have HN := Lib.hid hN
  have hM := fun W h => Next_any t 0 1 W (by omega) (Nat.zero_le _) h 0 rfl
  rw [hO2] at hM
  simp only [NxPost, Tk.val, Tk.cells] at hM
  have HM := Lib.hid hM
  have HC := Lib.hid hc
  have HA := Lib.hid (lawake_any w hX)
  have HX := Lib.hid hX
  clear hX hN hO hM hO2 hc
  go_enter Tryd.func5, Tryd.ntmps5
  go_upto_region 3 with (go_at_call 13; refine HA.out.mono ?_; rintro e w1 ⟨rfl, hb1⟩)
  go_upto_region 4 with (go_at_call 14; refine (HN.out _ (HX.out.bel hb1)).mono ?_; rintro e w2 ⟨v, rfl, ho, hb2⟩; obtain ⟨vp, cap, rfl⟩ := ho.form; clear ho)
  have hb := (bel_next hb1 hb2).alloc (bel_next hb1 hb2).size (.cells #[.int .i64 kind, .string (s.extract q (q + n)), .int .i64 (q : Int), .int .i64 ((q : Int) + (n : Int)), .bool line] 24)
  have hk : TkAt (w2.alloc (.cells #[.int .i64 kind, .string (s.extract q (q + n)), .int .i64 (q : Int), .int .i64 ((q : Int) + (n : Int)), .bool line] 24)) w2.heap.size ⟨kind, s.extract q (q + n), q, (q : Int) + (n : Int), line⟩ := heap_alloc_new _ _
  generalize World.alloc w2 _ = w3 at *
  generalize w2.heap.size = g at *
  have HK := Lib.hid hk
  clear hk hb1 hb2
  go_upto_region 5 with (go_at_call 14; refine (HM.out _ (HX.out.bel hb)).mono ?_; rintro e w4 ⟨v2, rfl, ho, hb4⟩; obtain ⟨vp2, cap2, rfl⟩ := ho.form; clear ho)
  have hk4 : TkAt (w4.alloc (.cells #[.int .i64 kind2, .string (t.extract q2 (q2 + n2)), .int .i64 (q2 : Int), .int .i64 ((q2 : Int) + (n2 : Int)), .bool line2] 24)) w4.heap.size ⟨kind2, t.extract q2 (q2 + n2), q2, (q2 : Int) + (n2 : Int), line2⟩ := heap_alloc_new _ _
  have hk := (HK.out.bel hb4).bel (Below.alloc (Below.refl _ w4) (Nat.le_refl _) (.cells #[.int .i64 kind2, .string (t.extract q2 (q2 + n2)), .int .i64 (q2 : Int), .int .i64 ((q2 : Int) + (n2 : Int)), .bool line2] 24))
  replace hb := (bel_next hb hb4).alloc (bel_next hb hb4).size (.cells #[.int .i64 kind2, .string (t.extract q2 (q2 + n2)), .int .i64 (q2 : Int), .int .i64 ((q2 : Int) + (n2 : Int)), .bool line2] 24)
  generalize World.alloc w4 _ = w5 at *
  generalize w4.heap.size = g2 at *
  clear HK hb4
  obtain ⟨d0, d1, d2, d3, d4, g0, g1, g2, g3, g4⟩ := TkAt.facts hk
  obtain ⟨x0, x1, x2, x3, x4, n0, n1, n2', n3, n4⟩ := TkAt.facts hk4
  have hcc := HC.out
  generalize cs.length = m at *
  generalize ds.length = m2 at *
  clear HC HN HM HX hk hk4
  by_cases hh : ¬ (m = 0)
  · clear hcc
    have e1 : decide ((0 : Int) < ((m : Nat) : Int)) = true := decide_eq_true (by omega)
    have e1' : decide (0 < m) = true := decide_eq_true (by omega)
    clear hh
    go_wp2_with (go_at_call 15; refine (lnum_any _ _).mono ?_; rintro e w' ⟨rfl, rfl⟩)
    go_ret
    exact ⟨rfl, hb⟩
  replace hh := Classical.not_not.1 hh
  have e1 : decide ((0 : Int) < ((m : Nat) : Int)) = false := decide_eq_false (by omega)
  have e1' : decide (0 < m) = false := decide_eq_false (by omega)
  have h0f := Lib.hid hh
  clear hh
  by_cases hh : ¬ (m2 = 0)
  · clear hcc
    have e2 : decide ((0 : Int) < ((m2 : Nat) : Int)) = true := decide_eq_true (by omega)
    have e2' : decide (0 < m2) = true := decide_eq_true (by omega)
    clear hh
    go_wp2_with (go_at_call 15; refine (lnum_any _ _).mono ?_; rintro e w' ⟨rfl, rfl⟩)
    go_ret
    exact ⟨rfl, hb⟩
  replace hh := Classical.not_not.1 hh
  have e2 : decide ((0 : Int) < ((m2 : Nat) : Int)) = false := decide_eq_false (by omega)
  have e2' : decide (0 < m2) = false := decide_eq_false (by omega)
  have h1f := Lib.hid hh
  clear hh
  by_cases hh : ¬ (q = 0)
  · clear hcc
    have e3 : (((q : Nat) : Int) != 0) = true := by rw [bne_iff_ne]; omega
    clear hh
    go_wp2_with (go_at_call 15; refine (lnum_any _ _).mono ?_; rintro e w' ⟨rfl, rfl⟩)
    go_ret
    exact ⟨rfl, hb⟩
  replace hh := Classical.not_not.1 hh
  have e3 : (((q : Nat) : Int) != 0) = false := by rw [bne_eq_false_iff_eq]; omega
  have h2f := Lib.hid hh
  clear hh
  by_cases hh : ¬ (s.extract q (q + n) = s)
  · clear hcc
    have e4 : ((s.extract q (q + n)).toList == s.toList) = false := by exact list_ne hh
    clear hh
    go_wp2_with (go_at_call 15; refine (lnum_any _ _).mono ?_; rintro e w' ⟨rfl, rfl⟩)
    go_ret
    exact ⟨rfl, hb⟩
  replace hh := Classical.not_not.1 hh
  have e4 : ((s.extract q (q + n)).toList == s.toList) = true := by rw [hh]; exact beq_self_eq_true _
  have h3f := Lib.hid hh
  clear hh
  by_cases hh : ¬ (kind ≠ 0)
  · clear hcc
    have e5 : (kind == 0) = true := by rw [beq_iff_eq]; omega
    clear hh
    go_wp2_with (go_at_call 15; refine (lnum_any _ _).mono ?_; rintro e w' ⟨rfl, rfl⟩)
    go_ret
    exact ⟨rfl, hb⟩
  replace hh := Classical.not_not.1 hh
  have e5 : (kind == 0) = false := by rw [beq_eq_false_iff_ne]; omega
  have h4f := Lib.hid hh
  clear hh
  by_cases hh : ¬ (q2 = 0)
  · clear hcc
    have e6 : (((q2 : Nat) : Int) != 0) = true := by rw [bne_iff_ne]; omega
    clear hh
    go_wp2_with (go_at_call 15; refine (lnum_any _ _).mono ?_; rintro e w' ⟨rfl, rfl⟩)
    go_ret
    exact ⟨rfl, hb⟩
  replace hh := Classical.not_not.1 hh
  have e6 : (((q2 : Nat) : Int) != 0) = false := by rw [bne_eq_false_iff_eq]; omega
  have h5f := Lib.hid hh
  clear hh
  exact absurd ⟨h0f.out, h1f.out, h2f.out, h3f.out, h4f.out, h5f.out⟩ hcc
set_option maxRecDepth 20000 in
set_option maxHeartbeats 8000000 in
theorem ends_both (s t : ByteArray) (w : World) (hs : s.size ≤ 4194304) (ht : t.size ≤ 4194304) (hX : Lx w) (kind : Int) (hk0 : kind ≠ 0) (h0 : 0 < s.size) (line line2 : Bool) (hO : nxt s 0 1 = .fine kind 0 s.size line []) (kind2 : Int) (n2 : Nat) (hO2 : nxt t 0 1 = .fine kind2 0 n2 line2 []) :
    Calls Tryd.prog 5 #[.string s, .string t] w fun e w' => e = .returned (.bool true) ∧ Below w.heap.size w w' := by
  obtain rfl := (nxt_fine_zero hO).2.2.2
  obtain rfl := (nxt_fine_zero hO2).2.2.2
  have hl := ends_list s t
  have hz := ends_size s t
  have HN := Lib.hid (fun W h => next_of s 0 kind 0 s.size W (by omega) (Nat.zero_le _) h hO 0 rfl s (by rw [Nat.zero_add]; exact ByteArray.extract_zero_size) 0 ((s.size : Nat) : Int) rfl (by omega))
  have HM := Lib.hid (fun W h => next_of t 0 kind2 0 n2 W (by omega) (Nat.zero_le _) h hO2 0 rfl (t.extract 0 n2) (by rw [Nat.zero_add]) 0 ((n2 : Nat) : Int) rfl (by omega))
  have HP := Lib.hid (fun W h => next_of (s ++ ⟨#[32]⟩ ++ t : ByteArray) 0 kind 0 s.size W (by omega) (Nat.zero_le _) h (ends_first hO h0 hl) 0 rfl s (by
    apply ba_ext
    rw [extract_take, Nat.zero_add, hl, ← ofl s, List.take_left]) 0 ((s.size : Nat) : Int) rfl (by omega))
  have HQ := Lib.hid (fun W h => next_of (s ++ ⟨#[32]⟩ ++ t : ByteArray) s.size kind2 (s.size + 1) n2 W (by omega) (by omega) h (ends_second hO2 hl) ((s.size : Nat) : Int) rfl (t.extract 0 n2) ((extract_shift (S := (s ++ ⟨#[32]⟩ ++ t : ByteArray)) (s := t) (P := s.data.toList ++ [32]) (k := s.size + 1) (q := 0) (n := n2) (by rw [hl]; simp) (by rw [List.length_append, ofl]; rfl)).trans (by rw [Nat.zero_add])) ((s.size : Int) + 1) ((s.size : Int) + 1 + (n2 : Int)) (by omega) (by omega))
  have bk : (kind == 0) = false := by rw [beq_eq_false_iff_ne]; exact hk0
  have HA := Lib.hid (lawake_any w hX)
  have HX := Lib.hid hX
  clear hX hO hO2 hk0 hl hz
  go_enter Tryd.func5, Tryd.ntmps5
  go_upto_region 3 with (go_at_call 13; refine HA.out.mono ?_; rintro e w1 ⟨rfl, hb1⟩)
  go_upto_region 4 with (go_at_call 14; refine (HN.out _ (HX.out.bel hb1)).mono ?_; rintro e w2 ⟨⟨vp, cap, rfl⟩, hb2⟩)
  have hb := (bel_next hb1 hb2).alloc (bel_next hb1 hb2).size (.cells #[.int .i64 kind, .string s, .int .i64 0, .int .i64 ((s.size : Nat) : Int), .bool false] 24)
  have hk : TkAt (w2.alloc (.cells #[.int .i64 kind, .string s, .int .i64 0, .int .i64 ((s.size : Nat) : Int), .bool false] 24)) w2.heap.size ⟨kind, s, 0, (s.size : Nat), false⟩ := heap_alloc_new _ _
  generalize World.alloc w2 _ = w3 at *
  generalize w2.heap.size = g at *
  have HK := Lib.hid hk
  clear hk hb1 hb2
  go_upto_region 5 with (go_at_call 14; refine (HM.out _ (HX.out.bel hb)).mono ?_; rintro e w4 ⟨⟨vp2, cap2, rfl⟩, hb4⟩)
  have hk4 : TkAt (w4.alloc (.cells #[.int .i64 kind2, .string (t.extract 0 n2), .int .i64 0, .int .i64 ((n2 : Nat) : Int), .bool false] 24)) w4.heap.size ⟨kind2, t.extract 0 n2, 0, (n2 : Nat), false⟩ := heap_alloc_new _ _
  have hk := (HK.out.bel hb4).bel (Below.alloc (Below.refl _ w4) (Nat.le_refl _) (.cells #[.int .i64 kind2, .string (t.extract 0 n2), .int .i64 0, .int .i64 ((n2 : Nat) : Int), .bool false] 24))
  replace hb := (bel_next hb hb4).alloc (bel_next hb hb4).size (.cells #[.int .i64 kind2, .string (t.extract 0 n2), .int .i64 0, .int .i64 ((n2 : Nat) : Int), .bool false] 24)
  generalize World.alloc w4 _ = w5 at *
  generalize w4.heap.size = g2 at *
  clear HK hb4
  obtain ⟨d0, d1, d2, d3, d4, g0, g1, g2, g3, g4⟩ := TkAt.facts hk
  obtain ⟨x0, x1, x2, x3, x4, n0, n1, n2', n3, n4⟩ := TkAt.facts hk4
  have HK := Lib.hid hk
  have HK4 := Lib.hid hk4
  clear hk hk4
  go_upto_region 7 with (go_at_call 15; refine (lnum_any _ _).mono ?_; rintro e w' ⟨rfl, rfl⟩)
  clear d0 d1 d2 d3 d4 g0 g1 g2 g3 g4 x0 x1 x2 x3 x4 n0 n1 n2' n3 n4
  go_upto_region 8 with (go_at_call 14; refine (HP.out _ (HX.out.bel hb)).mono ?_; rintro e w6 ⟨⟨vp3, cap3, rfl⟩, hb6⟩)
  have hk6 : TkAt (w6.alloc (.cells #[.int .i64 kind, .string s, .int .i64 0, .int .i64 ((s.size : Nat) : Int), .bool false] 24)) w6.heap.size ⟨kind, s, 0, (s.size : Nat), false⟩ := heap_alloc_new _ _
  have hk := (HK.out.bel hb6).bel (Below.alloc (Below.refl _ w6) (Nat.le_refl _) (.cells #[.int .i64 kind, .string s, .int .i64 0, .int .i64 ((s.size : Nat) : Int), .bool false] 24))
  have hk4 := (HK4.out.bel hb6).bel (Below.alloc (Below.refl _ w6) (Nat.le_refl _) (.cells #[.int .i64 kind, .string s, .int .i64 0, .int .i64 ((s.size : Nat) : Int), .bool false] 24))
  replace hb := (bel_next hb hb6).alloc (bel_next hb hb6).size (.cells #[.int .i64 kind, .string s, .int .i64 0, .int .i64 ((s.size : Nat) : Int), .bool false] 24)
  generalize World.alloc w6 _ = w7 at *
  generalize w6.heap.size = g3 at *
  clear HK HK4 hb6
  have HK := Lib.hid hk
  have HK4 := Lib.hid hk4
  have HK6 := Lib.hid hk6
  clear hk hk4 hk6
  go_upto_region 9 with (go_at_call 14; refine (HQ.out _ (HX.out.bel hb)).mono ?_; rintro e w8 ⟨⟨vp4, cap4, rfl⟩, hb8⟩)
  have hk8 : TkAt (w8.alloc (.cells #[.int .i64 kind2, .string (t.extract 0 n2), .int .i64 ((s.size : Int) + 1), .int .i64 ((s.size : Int) + 1 + (n2 : Int)), .bool false] 24)) w8.heap.size ⟨kind2, t.extract 0 n2, (s.size : Int) + 1, (s.size : Int) + 1 + (n2 : Int), false⟩ := heap_alloc_new _ _
  have hk := (HK.out.bel hb8).bel (Below.alloc (Below.refl _ w8) (Nat.le_refl _) (.cells #[.int .i64 kind2, .string (t.extract 0 n2), .int .i64 ((s.size : Int) + 1), .int .i64 ((s.size : Int) + 1 + (n2 : Int)), .bool false] 24))
  have hk4 := (HK4.out.bel hb8).bel (Below.alloc (Below.refl _ w8) (Nat.le_refl _) (.cells #[.int .i64 kind2, .string (t.extract 0 n2), .int .i64 ((s.size : Int) + 1), .int .i64 ((s.size : Int) + 1 + (n2 : Int)), .bool false] 24))
  have hk6 := (HK6.out.bel hb8).bel (Below.alloc (Below.refl _ w8) (Nat.le_refl _) (.cells #[.int .i64 kind2, .string (t.extract 0 n2), .int .i64 ((s.size : Int) + 1), .int .i64 ((s.size : Int) + 1 + (n2 : Int)), .bool false] 24))
  replace hb := (bel_next hb hb8).alloc (bel_next hb hb8).size (.cells #[.int .i64 kind2, .string (t.extract 0 n2), .int .i64 ((s.size : Int) + 1), .int .i64 ((s.size : Int) + 1 + (n2 : Int)), .bool false] 24)
  generalize World.alloc w8 _ = w9 at *
  generalize w8.heap.size = g4 at *
  clear HK HK4 HK6 hb8
  obtain ⟨d0, d1, d2, d3, d4, g0, g1, g2, g3, g4⟩ := TkAt.facts hk
  obtain ⟨x0, x1, x2, x3, x4, n0, n1, n2', n3, n4⟩ := TkAt.facts hk4
  obtain ⟨y0, y1, y2, y3, y4, o0, o1, o2, o3, o4⟩ := TkAt.facts hk6
  obtain ⟨z0, z1, z2, z3, z4, p0, p1, p2, p3, p4⟩ := TkAt.facts hk8
  clear hk hk4 hk6 hk8
  go_wp2_with (go_at_call 15; refine (lnum_any _ _).mono ?_; rintro e w' ⟨rfl, rfl⟩)
  go_ret
  exact ⟨rfl, hb⟩
theorem lexends_any (s t : ByteArray) (w : World) (hs : s.size ≤ 4194304) (ht : t.size ≤ 4194304) (hX : Lx w) :
    Calls Tryd.prog 5 #[.string s, .string t] w fun e w' => e = .returned (.bool true) ∧ Below w.heap.size w w' := by
  have hnz := nxt_nz s 0 1 (Nat.zero_le _)
  have hnz2 := nxt_nz t 0 1 (Nat.zero_le _)
  have hin := nxt_in s 0 1 (Nat.zero_le _)
  have hin2 := nxt_in t 0 1 (Nat.zero_le _)
  cases hO : nxt s 0 1 with
  | bad place code =>
    rw [hO] at hnz
    exact ends_bad1 s t w hs ht hX place code hnz hO
  | fine kind q n line cs =>
    cases hO2 : nxt t 0 1 with
    | bad place code =>
      rw [hO2] at hnz2
      exact ends_bad2 s t w hs ht hX kind q n line cs hO place code hnz2 hO2
    | fine kind2 q2 n2 line2 ds =>
      rw [hO] at hin
      rw [hO2] at hin2
      by_cases hc : cs.length = 0 ∧ ds.length = 0 ∧ q = 0 ∧ s.extract q (q + n) = s ∧ kind ≠ 0 ∧ q2 = 0
      · obtain ⟨h1, h2, rfl, h4, h5, rfl⟩ := hc
        have h1 := List.length_eq_zero_iff.1 h1
        have h2 := List.length_eq_zero_iff.1 h2
        subst h1
        subst h2
        have hn : n = s.size := by
          have h6 := congrArg ByteArray.size h4
          rw [ByteArray.size_extract] at h6
          have h7 := hin.2.1
          omega
        subst hn
        have h0 : 0 < s.size := by
          rcases Nat.eq_zero_or_pos s.size with h0 | h0
          · exfalso
            obtain ⟨_, _, h8, _⟩ := nxt_fine_zero hO
            have hl : s.data.toList = [] := List.length_eq_zero_iff.1 (by rw [ofl]; exact h0)
            rw [hl] at h8
            have h9 : TkO.fine 0 0 = TkO.fine kind s.size := h8
            exact h5 (TkO.fine.inj h9).1.symm
          · exact h0
        exact ends_both s t w hs ht hX kind h5 h0 line line2 hO kind2 n2 hO2
      · exact ends_skip s t w hs ht hX kind q n line cs hO kind2 q2 n2 line2 ds hO2 hc
end Go.Proofs.YtdkkfbakggbaeaaDoor
