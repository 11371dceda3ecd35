/- LexBlanks' function answers true: what stands ahead of a token turns nothing but its place. Conditions: the library's tables; at most 2^23 bytes. -/
import Derived.Test.YtdkkfbakggbaeaaDoorBs
namespace Go.Proofs.YtdkkfbakggbaeaaDoor
open Go.RowKit

/-- Next over the text with a pad ahead, where it is a token. -/
theorem next_pad {s T : ByteArray} {goal : Int} {k : Nat} {lines : Bool} {own : Nat} {P : List UInt8} (h : NxSh k lines own (nxt s 0 goal) (nxt T 1 goal)) (hT : T.data.toList = P ++ s.data.toList) (hP : P.length = k) (hs : T.size ≤ 16777216) (h1 : 1 ≤ T.size)
    {kind : Int} {q n : Nat} {line : Bool} {cs : List Cm} (hO : nxt s 0 goal = .fine kind q n line cs) (kz : Int) (hk : kz = k) (W : World) (hX : Lx W) :
    Calls Tryd.prog 14 #[.string T, .int .i64 1, .int .i64 goal] W fun e w' => ∃ vp cap, e = .returned (.tuple #[.agg #[.int .i64 kind, .string (s.extract q (q + n)), .int .i64 ((q : Int) + kz), .int .i64 ((q : Int) + (n : Int) + kz), .bool (line || lines)], .slice vp (cs.length + own) cap, .int .i64 0, .int .i64 0]) ∧
      (own = 1 → ∃ g f, vp = some ⟨g, 0, none⟩ ∧ w'.cell? ⟨g, 2, none⟩ = some (.int .i64 f) ∧ 1 ≤ f ∧ g < w'.heap.size) ∧ Below W.heap.size W w' := by
  have hN := Next_any T 1 goal W hs h1 hX 1 rfl
  rw [hO] at h
  cases hO2 : nxt T 1 goal with
  | bad place code => rw [hO2] at h; exact h.elim
  | fine kind' q' n' line' cs' =>
    rw [hO2] at h hN
    obtain ⟨rfl, rfl, rfl, rfl, hl, hc⟩ := h
    refine hN.mono fun e w' => ?_
    rintro ⟨v, rfl, ho, hb⟩
    obtain ⟨vp, cap, rfl⟩ := ho.form
    refine ⟨vp, cap, ?_, fun how => ?_, hb⟩
    · simp only [Tk.val, Tk.cells]
      rw [extract_shift hT hP, hl, show ((k + q : Nat) : Int) = (q : Int) + kz by omega, show ((k + q + n' : Nat) : Int) = (q : Int) + (n' : Int) + kz by omega]
    · obtain ⟨c, ds, rfl, hc1⟩ := hc how
      obtain ⟨g, cap', hv, _, hgl, _, hcell⟩ := ho.slice (by simp)
      obtain ⟨rfl, _, _⟩ := Value.slice.inj hv
      exact ⟨g, _, rfl, hcell 0 2 (by simp) (by decide), hc1, hgl⟩
theorem next_padbad {s T : ByteArray} {goal : Int} {k : Nat} {lines : Bool} {own : Nat} (h : NxSh k lines own (nxt s 0 goal) (nxt T 1 goal)) (hs : T.size ≤ 16777216) (h1 : 1 ≤ T.size)
    {place code : Int} (hO : nxt s 0 goal = .bad place code) (kz : Int) (hk : kz = k) (W : World) (hX : Lx W) :
    Calls Tryd.prog 14 #[.string T, .int .i64 1, .int .i64 goal] W fun e w' => e = .returned (.tuple #[.agg #[.int .i64 0, .string ⟨#[]⟩, .int .i64 0, .int .i64 0, .bool false], .slice none 0 0, .int .i64 (place + kz), .int .i64 code]) ∧ Below W.heap.size W w' := by
  have hN := Next_any T 1 goal W hs h1 hX 1 rfl
  rw [hO] at h
  cases hO2 : nxt T 1 goal with
  | fine _ _ _ _ _ => rw [hO2] at h; exact h.elim
  | bad place' code' =>
    rw [hO2] at h hN
    obtain ⟨rfl, rfl⟩ := h
    refine hN.mono fun e w' => ?_
    rintro ⟨rfl, hb⟩
    refine ⟨?_, hb⟩
    simp only [Tk.val, Tk.cells, Tk.zero]
    rw [hk, Int.add_comm]
theorem ba_size {T s : ByteArray} {P : List UInt8} (h : T.data.toList = P ++ s.data.toList) : T.size = P.length + s.size := by
  rw [← ofl, h, List.length_append, ofl]
/-- does the text begin so? -/
theorem two_bytes (s : ByteArray) (h : 1 < s.size) : ((s.extract 0 2).toList == [35, 33]) = Lib.hasPrefix s.data.toList [35, 33] := by
  rw [Lib.toList_data, extract_take]
  have hl := ofl s
  cases hd : s.data.toList with
  | nil => rw [hd] at hl; simp at hl; omega
  | cons a t => cases t with
    | nil => rw [hd] at hl; simp at hl; omega
    | cons b t =>
      simp [Lib.hasPrefix, List.isPrefixOf]
      rw [BEq.comm (a := a), BEq.comm (a := b)]
set_option maxRecDepth 200000 in
set_option maxHeartbeats 4000000 in
theorem blanks_hash0 (s : ByteArray) (goal many : Int) (w : World) (hs : s.size ≤ 8388608) (hX : Lx w) (hg : goal = 1 ∨ goal = 2 ∨ goal = 5) (hm : (IntKind.u64.wrap many).tmod 5 = 0) (h : Lib.hasPrefix s.data.toList [35, 33] = true) :
    Calls Tryd.prog 4 #[.string s, .int .i64 goal, .int .i64 many] w fun e w' => e = .returned (.bool true) ∧ Below w.heap.size w w' := by
  have h2 := prefix_len h
  rw [ofl] at h2
  have h3 : 1 < s.size := h2
  have h4 : 2 ≤ s.size := h2
  have ht : ((s.extract 0 2).toList == [35, 33]) = true := by rw [two_bytes s h3]; exact h
  have d1 : decide ((1 : Int) < ((s.size : Nat) : Int)) = true := decide_eq_true (by omega)
  have HN := Lib.hid (fun W h => next_gen s 0 goal W (by omega) (Nat.zero_le _) h 0 rfl)
  have HM := Lib.hid (fun (T : ByteArray) (hT : T.data.toList = 97 :: 32 :: s.data.toList) W h => next_gen T 1 goal W (by rw [ba_size (P := [97, 32]) hT]; show 2 + s.size ≤ _; omega) (by rw [ba_size (P := [97, 32]) hT]; show 1 ≤ 2 + s.size; omega) h 1 rfl)
  have HA := Lib.hid (lawake_any w hX)
  have HX := Lib.hid hX
  clear hX h h2 h3

  have HG := Lib.hid hg
  clear hg
  go_enter Tryd.func4, Tryd.ntmps4
  go_upto_region 3 with (go_at_call 13; refine HA.out.mono ?_; rintro e w1 ⟨rfl, hb1⟩)
  go_cut [30] from 21 to 30 (fun v wx => v = .bool false ∧ wx = w1)
  case first =>
    rcases HG.out with rfl | rfl | rfl
    · go_wp2_with fail
      go_meet
      exact ⟨rfl, rfl⟩
    · go_wp2_with fail
      go_meet
      exact ⟨rfl, rfl⟩
    · go_wp2_with fail
      go_meet
      exact ⟨rfl, rfl⟩
  case rest =>
    obtain ⟨rfl, rfl⟩ := hcut
    go_upto_region 6 with fail
    go_upto_region 8 with (go_at_call 14; refine (HN.out _ (HX.out.bel (below_alloc2' hb1 _))).mono ?_; rintro e w2 ⟨kind, text, from', till, line, vp, n, cap, place, code, rfl, hb2⟩)
    have hb := (bel_next (below_alloc2' hb1 _) hb2).alloc (bel_next (below_alloc2' hb1 _) hb2).size (.cells #[.int .i64 kind, .string text, .int .i64 from', .int .i64 till, .bool line] 24)
    have hk : TkAt (w2.alloc (.cells #[.int .i64 kind, .string text, .int .i64 from', .int .i64 till, .bool line] 24)) w2.heap.size ⟨kind, text, from', till, line⟩ := heap_alloc_new _ _
    generalize World.alloc w2 _ = w3 at *
    generalize w2.heap.size = g at *
    have HK := Lib.hid hk
    clear hk hb1 hb2
    go_upto_region 9 with (go_at_call 14; refine (HM.out _ (by simp [ByteArray.data_append]) _ (HX.out.bel hb)).mono ?_; rintro e w4 ⟨kind', text', from2, till2, line2, vp2, n2, cap2, place2, code2, rfl, hb4⟩)
    have hk4 : TkAt (w4.alloc (.cells #[.int .i64 kind', .string text', .int .i64 from2, .int .i64 till2, .bool line2] 24)) w4.heap.size ⟨kind', text', from2, till2, line2⟩ := heap_alloc_new _ _
    have hk := (HK.out.bel hb4).bel (Below.alloc (Below.refl _ w4) (Nat.le_refl _) (.cells #[.int .i64 kind', .string text', .int .i64 from2, .int .i64 till2, .bool line2] 24))
    replace hb := (bel_next hb hb4).alloc (bel_next hb hb4).size (.cells #[.int .i64 kind', .string text', .int .i64 from2, .int .i64 till2, .bool line2] 24)
    generalize World.alloc w4 _ = w5 at *
    generalize w4.heap.size = g2 at *
    clear HK hb4
    go_wp2_with (go_at_call 15; refine (lnum_any _ _).mono ?_; rintro e w' ⟨rfl, rfl⟩)
    go_ret
    exact ⟨rfl, hb⟩
set_option maxRecDepth 200000 in
set_option maxHeartbeats 4000000 in
theorem blanks_bad0 (s : ByteArray) (goal many : Int) (w : World) (hs : s.size ≤ 8388608) (hX : Lx w) (hg : goal = 1 ∨ goal = 2 ∨ goal = 5) (hm : (IntKind.u64.wrap many).tmod 5 = 0) (h : Lib.hasPrefix s.data.toList [35, 33] = false) (place code : Int) (hp0 : 0 ≤ place) (hp1 : place ≤ s.size) (hc : code ≠ 0) (hO : nxt s 0 goal = .bad place code) :
    Calls Tryd.prog 4 #[.string s, .int .i64 goal, .int .i64 many] w fun e w' => e = .returned (.bool true) ∧ Below w.heap.size w w' := by
  have hN := fun W h => Next_any s 0 goal W (by omega) (Nat.zero_le _) h 0 rfl
  rw [hO] at hN
  simp only [NxPost, Tk.val, Tk.cells, Tk.zero] at hN
  have HN := Lib.hid hN
  have bc : (code != 0) = true := by rw [bne_iff_ne]; exact hc
  have HM := Lib.hid (fun (T : ByteArray) (hT : T.data.toList = 97 :: 32 :: s.data.toList) W hx => next_padbad (blank0 hg hT h) (by rw [ba_size (P := [97, 32]) hT]; show 2 + s.size ≤ _; omega) (by rw [ba_size (P := [97, 32]) hT]; show 1 ≤ 2 + s.size; omega) hO 2 rfl W hx)
  have hh : (decide ((1 : Int) < ((s.size : Nat) : Int)) = false) ∨ (decide ((1 : Int) < ((s.size : Nat) : Int)) = true ∧ 2 ≤ s.size ∧ ((s.extract 0 2).toList == [35, 33]) = false) := by
    by_cases h3 : 1 < s.size
    · exact .inr ⟨decide_eq_true (by omega), h3, by rw [two_bytes s h3]; exact h⟩
    · exact .inl (decide_eq_false (by omega))
  have HH := Lib.hid hh
  clear hh
  have HA := Lib.hid (lawake_any w hX)
  have HX := Lib.hid hX
  clear hX h hN hO hc

  have HG := Lib.hid hg
  clear hg
  go_enter Tryd.func4, Tryd.ntmps4
  go_upto_region 3 with (go_at_call 13; refine HA.out.mono ?_; rintro e w1 ⟨rfl, hb1⟩)
  go_cut [30] from 21 to 30 (fun v wx => v = .bool false ∧ wx = w1)
  case first =>
    rcases HG.out with rfl | rfl | rfl
    · go_wp2_with fail
      go_meet
      exact ⟨rfl, rfl⟩
    · go_wp2_with fail
      go_meet
      exact ⟨rfl, rfl⟩
    · go_wp2_with fail
      go_meet
      exact ⟨rfl, rfl⟩
  case rest =>
    obtain ⟨rfl, rfl⟩ := hcut
    go_upto_region 6 with fail
    go_upto_region 8 with (go_at_call 14; refine (HN.out _ (HX.out.bel (below_alloc2' hb1 _))).mono ?_; rintro e w2 ⟨rfl, hb2⟩)
    have hb := (bel_next (below_alloc2' hb1 _) hb2).alloc (bel_next (below_alloc2' hb1 _) hb2).size (.cells #[.int .i64 0, .string ⟨#[]⟩, .int .i64 0, .int .i64 0, .bool false] 24)
    have hk : TkAt (w2.alloc (.cells #[.int .i64 0, .string ⟨#[]⟩, .int .i64 0, .int .i64 0, .bool false] 24)) w2.heap.size ⟨0, ⟨#[]⟩, 0, 0, false⟩ := heap_alloc_new _ _
    generalize World.alloc w2 _ = w3 at *
    generalize w2.heap.size = g at *
    have HK := Lib.hid hk
    clear hk hb1 hb2
    go_upto_region 9 with (go_at_call 14; refine (HM.out _ (by simp [ByteArray.data_append]) _ (HX.out.bel hb)).mono ?_; rintro e w4 ⟨rfl, hb4⟩)
    have hk4 : TkAt (w4.alloc (.cells #[.int .i64 0, .string ⟨#[]⟩, .int .i64 0, .int .i64 0, .bool false] 24)) w4.heap.size ⟨0, ⟨#[]⟩, 0, 0, false⟩ := heap_alloc_new _ _
    have hk := (HK.out.bel hb4).bel (Below.alloc (Below.refl _ w4) (Nat.le_refl _) (.cells #[.int .i64 0, .string ⟨#[]⟩, .int .i64 0, .int .i64 0, .bool false] 24))
    replace hb := (bel_next hb hb4).alloc (bel_next hb hb4).size (.cells #[.int .i64 0, .string ⟨#[]⟩, .int .i64 0, .int .i64 0, .bool false] 24)
    generalize World.alloc w4 _ = w5 at *
    generalize w4.heap.size = g2 at *
    clear HK hb4
    go_cut [64] from 57 to 64 (fun v wx => v = .bool false ∧ wx = w5)
    case first =>
      rcases HH.out with d1 | ⟨d1, d3, d2⟩
      · go_wp2_with fail
        go_meet
        exact ⟨rfl, rfl⟩
      · go_wp2_with fail
        go_meet
        exact ⟨rfl, rfl⟩
    case rest =>
      obtain ⟨rfl, rfl⟩ := hcut
      go_wp2_with (go_at_call 15; refine (lnum_any _ _).mono ?_; rintro e w' ⟨rfl, rfl⟩)
      go_ret
      exact ⟨rfl, hb⟩
set_option maxRecDepth 200000 in
set_option maxHeartbeats 4000000 in
theorem blanks_fine0 (s : ByteArray) (goal many : Int) (w : World) (hs : s.size ≤ 8388608) (hX : Lx w) (hg : goal = 1 ∨ goal = 2 ∨ goal = 5) (hm : (IntKind.u64.wrap many).tmod 5 = 0) (h : Lib.hasPrefix s.data.toList [35, 33] = false) (kind : Int) (q n : Nat) (line : Bool) (cs : List Cm) (hqn : q + n ≤ s.size) (hO : nxt s 0 goal = .fine kind q n line cs) :
    Calls Tryd.prog 4 #[.string s, .int .i64 goal, .int .i64 many] w fun e w' => e = .returned (.bool true) ∧ Below w.heap.size w w' := by
  have hN := fun W h => Next_any s 0 goal W (by omega) (Nat.zero_le _) h 0 rfl
  rw [hO] at hN
  simp only [NxPost, Tk.val, Tk.cells] at hN
  have HN := Lib.hid hN
  have HM := Lib.hid (fun (T : ByteArray) (hT : T.data.toList = 97 :: 32 :: s.data.toList) W hx => next_pad (blank0 hg hT h) (P := [97, 32]) hT rfl (by rw [ba_size (P := [97, 32]) hT]; show 2 + s.size ≤ _; omega) (by rw [ba_size (P := [97, 32]) hT]; show 1 ≤ 2 + s.size; omega) hO 2 rfl W hx)
  have hh : (decide ((1 : Int) < ((s.size : Nat) : Int)) = false) ∨ (decide ((1 : Int) < ((s.size : Nat) : Int)) = true ∧ 2 ≤ s.size ∧ ((s.extract 0 2).toList == [35, 33]) = false) := by
    by_cases h3 : 1 < s.size
    · exact .inr ⟨decide_eq_true (by omega), h3, by rw [two_bytes s h3]; exact h⟩
    · exact .inl (decide_eq_false (by omega))
  have HH := Lib.hid hh
  clear hh
  have HA := Lib.hid (lawake_any w hX)
  have HX := Lib.hid hX
  clear hX h hN hO

  have HG := Lib.hid hg
  clear hg
  go_enter Tryd.func4, Tryd.ntmps4
  go_upto_region 3 with (go_at_call 13; refine HA.out.mono ?_; rintro e w1 ⟨rfl, hb1⟩)
  go_cut [30] from 21 to 30 (fun v wx => v = .bool false ∧ wx = w1)
  case first =>
    rcases HG.out with rfl | rfl | rfl
    · go_wp2_with fail
      go_meet
      exact ⟨rfl, rfl⟩
    · go_wp2_with fail
      go_meet
      exact ⟨rfl, rfl⟩
    · go_wp2_with fail
      go_meet
      exact ⟨rfl, rfl⟩
  case rest =>
    obtain ⟨rfl, rfl⟩ := hcut
    go_upto_region 6 with fail
    go_upto_region 8 with (go_at_call 14; refine (HN.out _ (HX.out.bel (below_alloc2' hb1 _))).mono ?_; rintro e w2 ⟨v, rfl, ho, hb2⟩; obtain ⟨vp, cap, rfl⟩ := ho.form; clear ho)
    have hb := (bel_next (below_alloc2' hb1 _) hb2).alloc (bel_next (below_alloc2' hb1 _) hb2).size (.cells #[.int .i64 kind, .string (s.extract q (q + n)), .int .i64 (q : Int), .int .i64 ((q : Int) + (n : Int)), .bool line] 24)
    have hk : TkAt (w2.alloc (.cells #[.int .i64 kind, .string (s.extract q (q + n)), .int .i64 (q : Int), .int .i64 ((q : Int) + (n : Int)), .bool line] 24)) w2.heap.size ⟨kind, s.extract q (q + n), q, (q : Int) + (n : Int), line⟩ := heap_alloc_new _ _
    generalize World.alloc w2 _ = w3 at *
    generalize w2.heap.size = g at *
    have HK := Lib.hid hk
    clear hk hb1 hb2
    go_upto_region 9 with (go_at_call 14; refine (HM.out _ (by simp [ByteArray.data_append]) _ (HX.out.bel hb)).mono ?_; rintro e w4 ⟨vp2, cap2, rfl, hown, hb4⟩)
    have hk4 : TkAt (w4.alloc (.cells #[.int .i64 kind, .string (s.extract q (q + n)), .int .i64 ((q : Int) + 2), .int .i64 ((q : Int) + (n : Int) + 2), .bool line] 24)) w4.heap.size ⟨kind, s.extract q (q + n), (q : Int) + 2, (q : Int) + (n : Int) + 2, line⟩ := heap_alloc_new _ _
    have hk := (HK.out.bel hb4).bel (Below.alloc (Below.refl _ w4) (Nat.le_refl _) (.cells #[.int .i64 kind, .string (s.extract q (q + n)), .int .i64 ((q : Int) + 2), .int .i64 ((q : Int) + (n : Int) + 2), .bool line] 24))
    replace hb := (bel_next hb hb4).alloc (bel_next hb hb4).size (.cells #[.int .i64 kind, .string (s.extract q (q + n)), .int .i64 ((q : Int) + 2), .int .i64 ((q : Int) + (n : Int) + 2), .bool line] 24)
    generalize World.alloc w4 _ = w5 at *
    generalize w4.heap.size = g2 at *
    clear HK hb4 hown
    go_cut [64] from 57 to 64 (fun v wx => v = .bool false ∧ wx = w5)
    case first =>
      rcases HH.out with d1 | ⟨d1, d3, d2⟩
      · go_wp2_with fail
        go_meet
        exact ⟨rfl, rfl⟩
      · go_wp2_with fail
        go_meet
        exact ⟨rfl, rfl⟩
    case rest =>
      obtain ⟨rfl, rfl⟩ := hcut
      obtain ⟨d0, d1, d2, d3, d4, g0, g1, g2, g3, g4⟩ := TkAt.facts hk
      obtain ⟨x0, x1, x2, x3, x4, n0, n1, n2, n3, n4⟩ := TkAt.facts hk4
      cases line
      · go_wp2_with (go_at_call 15; refine (lnum_any _ _).mono ?_; rintro e w' ⟨rfl, rfl⟩)
        go_ret
        exact ⟨rfl, hb⟩
      · go_wp2_with (go_at_call 15; refine (lnum_any _ _).mono ?_; rintro e w' ⟨rfl, rfl⟩)
        go_ret
        exact ⟨rfl, hb⟩
set_option maxRecDepth 200000 in
set_option maxHeartbeats 4000000 in
theorem blanks_hash1 (s : ByteArray) (goal many : Int) (w : World) (hs : s.size ≤ 8388608) (hX : Lx w) (hg : goal = 1 ∨ goal = 2 ∨ goal = 5) (hm : (IntKind.u64.wrap many).tmod 5 = 1) (h : Lib.hasPrefix s.data.toList [35, 33] = true) :
    Calls Tryd.prog 4 #[.string s, .int .i64 goal, .int .i64 many] w fun e w' => e = .returned (.bool true) ∧ Below w.heap.size w w' := by
  have h2 := prefix_len h
  rw [ofl] at h2
  have h3 : 1 < s.size := h2
  have h4 : 2 ≤ s.size := h2
  have ht : ((s.extract 0 2).toList == [35, 33]) = true := by rw [two_bytes s h3]; exact h
  have d1 : decide ((1 : Int) < ((s.size : Nat) : Int)) = true := decide_eq_true (by omega)
  have HN := Lib.hid (fun W h => next_gen s 0 goal W (by omega) (Nat.zero_le _) h 0 rfl)
  have HM := Lib.hid (fun (T : ByteArray) (hT : T.data.toList = 97 :: 9 :: 10 :: s.data.toList) W h => next_gen T 1 goal W (by rw [ba_size (P := [97, 9, 10]) hT]; show 3 + s.size ≤ _; omega) (by rw [ba_size (P := [97, 9, 10]) hT]; show 1 ≤ 3 + s.size; omega) h 1 rfl)
  have HA := Lib.hid (lawake_any w hX)
  have HX := Lib.hid hX
  clear hX h h2 h3

  have HG := Lib.hid hg
  clear hg
  go_enter Tryd.func4, Tryd.ntmps4
  go_upto_region 3 with (go_at_call 13; refine HA.out.mono ?_; rintro e w1 ⟨rfl, hb1⟩)
  go_cut [30] from 21 to 30 (fun v wx => v = .bool false ∧ wx = w1)
  case first =>
    rcases HG.out with rfl | rfl | rfl
    · go_wp2_with fail
      go_meet
      exact ⟨rfl, rfl⟩
    · go_wp2_with fail
      go_meet
      exact ⟨rfl, rfl⟩
    · go_wp2_with fail
      go_meet
      exact ⟨rfl, rfl⟩
  case rest =>
    obtain ⟨rfl, rfl⟩ := hcut
    go_upto_region 6 with fail
    go_upto_region 8 with (go_at_call 14; refine (HN.out _ (HX.out.bel (below_alloc2' hb1 _))).mono ?_; rintro e w2 ⟨kind, text, from', till, line, vp, n, cap, place, code, rfl, hb2⟩)
    have hb := (bel_next (below_alloc2' hb1 _) hb2).alloc (bel_next (below_alloc2' hb1 _) hb2).size (.cells #[.int .i64 kind, .string text, .int .i64 from', .int .i64 till, .bool line] 24)
    have hk : TkAt (w2.alloc (.cells #[.int .i64 kind, .string text, .int .i64 from', .int .i64 till, .bool line] 24)) w2.heap.size ⟨kind, text, from', till, line⟩ := heap_alloc_new _ _
    generalize World.alloc w2 _ = w3 at *
    generalize w2.heap.size = g at *
    have HK := Lib.hid hk
    clear hk hb1 hb2
    go_upto_region 9 with (go_at_call 14; refine (HM.out _ (by simp [ByteArray.data_append]) _ (HX.out.bel hb)).mono ?_; rintro e w4 ⟨kind', text', from2, till2, line2, vp2, n2, cap2, place2, code2, rfl, hb4⟩)
    have hk4 : TkAt (w4.alloc (.cells #[.int .i64 kind', .string text', .int .i64 from2, .int .i64 till2, .bool line2] 24)) w4.heap.size ⟨kind', text', from2, till2, line2⟩ := heap_alloc_new _ _
    have hk := (HK.out.bel hb4).bel (Below.alloc (Below.refl _ w4) (Nat.le_refl _) (.cells #[.int .i64 kind', .string text', .int .i64 from2, .int .i64 till2, .bool line2] 24))
    replace hb := (bel_next hb hb4).alloc (bel_next hb hb4).size (.cells #[.int .i64 kind', .string text', .int .i64 from2, .int .i64 till2, .bool line2] 24)
    generalize World.alloc w4 _ = w5 at *
    generalize w4.heap.size = g2 at *
    clear HK hb4
    go_wp2_with (go_at_call 15; refine (lnum_any _ _).mono ?_; rintro e w' ⟨rfl, rfl⟩)
    go_ret
    exact ⟨rfl, hb⟩
set_option maxRecDepth 200000 in
set_option maxHeartbeats 4000000 in
theorem blanks_bad1 (s : ByteArray) (goal many : Int) (w : World) (hs : s.size ≤ 8388608) (hX : Lx w) (hg : goal = 1 ∨ goal = 2 ∨ goal = 5) (hm : (IntKind.u64.wrap many).tmod 5 = 1) (h : Lib.hasPrefix s.data.toList [35, 33] = false) (place code : Int) (hp0 : 0 ≤ place) (hp1 : place ≤ s.size) (hc : code ≠ 0) (hO : nxt s 0 goal = .bad place code) :
    Calls Tryd.prog 4 #[.string s, .int .i64 goal, .int .i64 many] w fun e w' => e = .returned (.bool true) ∧ Below w.heap.size w w' := by
  have hN := fun W h => Next_any s 0 goal W (by omega) (Nat.zero_le _) h 0 rfl
  rw [hO] at hN
  simp only [NxPost, Tk.val, Tk.cells, Tk.zero] at hN
  have HN := Lib.hid hN
  have bc : (code != 0) = true := by rw [bne_iff_ne]; exact hc
  have HM := Lib.hid (fun (T : ByteArray) (hT : T.data.toList = 97 :: 9 :: 10 :: s.data.toList) W hx => next_padbad (blank1 hg hT h) (by rw [ba_size (P := [97, 9, 10]) hT]; show 3 + s.size ≤ _; omega) (by rw [ba_size (P := [97, 9, 10]) hT]; show 1 ≤ 3 + s.size; omega) hO 3 rfl W hx)
  have hh : (decide ((1 : Int) < ((s.size : Nat) : Int)) = false) ∨ (decide ((1 : Int) < ((s.size : Nat) : Int)) = true ∧ 2 ≤ s.size ∧ ((s.extract 0 2).toList == [35, 33]) = false) := by
    by_cases h3 : 1 < s.size
    · exact .inr ⟨decide_eq_true (by omega), h3, by rw [two_bytes s h3]; exact h⟩
    · exact .inl (decide_eq_false (by omega))
  have HH := Lib.hid hh
  clear hh
  have HA := Lib.hid (lawake_any w hX)
  have HX := Lib.hid hX
  clear hX h hN hO hc

  have HG := Lib.hid hg
  clear hg
  go_enter Tryd.func4, Tryd.ntmps4
  go_upto_region 3 with (go_at_call 13; refine HA.out.mono ?_; rintro e w1 ⟨rfl, hb1⟩)
  go_cut [30] from 21 to 30 (fun v wx => v = .bool false ∧ wx = w1)
  case first =>
    rcases HG.out with rfl | rfl | rfl
    · go_wp2_with fail
      go_meet
      exact ⟨rfl, rfl⟩
    · go_wp2_with fail
      go_meet
      exact ⟨rfl, rfl⟩
    · go_wp2_with fail
      go_meet
      exact ⟨rfl, rfl⟩
  case rest =>
    obtain ⟨rfl, rfl⟩ := hcut
    go_upto_region 6 with fail
    go_upto_region 8 with (go_at_call 14; refine (HN.out _ (HX.out.bel (below_alloc2' hb1 _))).mono ?_; rintro e w2 ⟨rfl, hb2⟩)
    have hb := (bel_next (below_alloc2' hb1 _) hb2).alloc (bel_next (below_alloc2' hb1 _) hb2).size (.cells #[.int .i64 0, .string ⟨#[]⟩, .int .i64 0, .int .i64 0, .bool false] 24)
    have hk : TkAt (w2.alloc (.cells #[.int .i64 0, .string ⟨#[]⟩, .int .i64 0, .int .i64 0, .bool false] 24)) w2.heap.size ⟨0, ⟨#[]⟩, 0, 0, false⟩ := heap_alloc_new _ _
    generalize World.alloc w2 _ = w3 at *
    generalize w2.heap.size = g at *
    have HK := Lib.hid hk
    clear hk hb1 hb2
    go_upto_region 9 with (go_at_call 14; refine (HM.out _ (by simp [ByteArray.data_append]) _ (HX.out.bel hb)).mono ?_; rintro e w4 ⟨rfl, hb4⟩)
    have hk4 : TkAt (w4.alloc (.cells #[.int .i64 0, .string ⟨#[]⟩, .int .i64 0, .int .i64 0, .bool false] 24)) w4.heap.size ⟨0, ⟨#[]⟩, 0, 0, false⟩ := heap_alloc_new _ _
    have hk := (HK.out.bel hb4).bel (Below.alloc (Below.refl _ w4) (Nat.le_refl _) (.cells #[.int .i64 0, .string ⟨#[]⟩, .int .i64 0, .int .i64 0, .bool false] 24))
    replace hb := (bel_next hb hb4).alloc (bel_next hb hb4).size (.cells #[.int .i64 0, .string ⟨#[]⟩, .int .i64 0, .int .i64 0, .bool false] 24)
    generalize World.alloc w4 _ = w5 at *
    generalize w4.heap.size = g2 at *
    clear HK hb4
    go_cut [64] from 57 to 64 (fun v wx => v = .bool false ∧ wx = w5)
    case first =>
      rcases HH.out with d1 | ⟨d1, d3, d2⟩
      · go_wp2_with fail
        go_meet
        exact ⟨rfl, rfl⟩
      · go_wp2_with fail
        go_meet
        exact ⟨rfl, rfl⟩
    case rest =>
      obtain ⟨rfl, rfl⟩ := hcut
      go_wp2_with (go_at_call 15; refine (lnum_any _ _).mono ?_; rintro e w' ⟨rfl, rfl⟩)
      go_ret
      exact ⟨rfl, hb⟩
set_option maxRecDepth 200000 in
set_option maxHeartbeats 4000000 in
theorem blanks_fine1 (s : ByteArray) (goal many : Int) (w : World) (hs : s.size ≤ 8388608) (hX : Lx w) (hg : goal = 1 ∨ goal = 2 ∨ goal = 5) (hm : (IntKind.u64.wrap many).tmod 5 = 1) (h : Lib.hasPrefix s.data.toList [35, 33] = false) (kind : Int) (q n : Nat) (line : Bool) (cs : List Cm) (hqn : q + n ≤ s.size) (hO : nxt s 0 goal = .fine kind q n line cs) :
    Calls Tryd.prog 4 #[.string s, .int .i64 goal, .int .i64 many] w fun e w' => e = .returned (.bool true) ∧ Below w.heap.size w w' := by
  have hN := fun W h => Next_any s 0 goal W (by omega) (Nat.zero_le _) h 0 rfl
  rw [hO] at hN
  simp only [NxPost, Tk.val, Tk.cells] at hN
  have HN := Lib.hid hN
  have HM := Lib.hid (fun (T : ByteArray) (hT : T.data.toList = 97 :: 9 :: 10 :: s.data.toList) W hx => next_pad (blank1 hg hT h) (P := [97, 9, 10]) hT rfl (by rw [ba_size (P := [97, 9, 10]) hT]; show 3 + s.size ≤ _; omega) (by rw [ba_size (P := [97, 9, 10]) hT]; show 1 ≤ 3 + s.size; omega) hO 3 rfl W hx)
  have hh : (decide ((1 : Int) < ((s.size : Nat) : Int)) = false) ∨ (decide ((1 : Int) < ((s.size : Nat) : Int)) = true ∧ 2 ≤ s.size ∧ ((s.extract 0 2).toList == [35, 33]) = false) := by
    by_cases h3 : 1 < s.size
    · exact .inr ⟨decide_eq_true (by omega), h3, by rw [two_bytes s h3]; exact h⟩
    · exact .inl (decide_eq_false (by omega))
  have HH := Lib.hid hh
  clear hh
  have HA := Lib.hid (lawake_any w hX)
  have HX := Lib.hid hX
  clear hX h hN hO

  have HG := Lib.hid hg
  clear hg
  go_enter Tryd.func4, Tryd.ntmps4
  go_upto_region 3 with (go_at_call 13; refine HA.out.mono ?_; rintro e w1 ⟨rfl, hb1⟩)
  go_cut [30] from 21 to 30 (fun v wx => v = .bool false ∧ wx = w1)
  case first =>
    rcases HG.out with rfl | rfl | rfl
    · go_wp2_with fail
      go_meet
      exact ⟨rfl, rfl⟩
    · go_wp2_with fail
      go_meet
      exact ⟨rfl, rfl⟩
    · go_wp2_with fail
      go_meet
      exact ⟨rfl, rfl⟩
  case rest =>
    obtain ⟨rfl, rfl⟩ := hcut
    go_upto_region 6 with fail
    go_upto_region 8 with (go_at_call 14; refine (HN.out _ (HX.out.bel (below_alloc2' hb1 _))).mono ?_; rintro e w2 ⟨v, rfl, ho, hb2⟩; obtain ⟨vp, cap, rfl⟩ := ho.form; clear ho)
    have hb := (bel_next (below_alloc2' hb1 _) hb2).alloc (bel_next (below_alloc2' hb1 _) hb2).size (.cells #[.int .i64 kind, .string (s.extract q (q + n)), .int .i64 (q : Int), .int .i64 ((q : Int) + (n : Int)), .bool line] 24)
    have hk : TkAt (w2.alloc (.cells #[.int .i64 kind, .string (s.extract q (q + n)), .int .i64 (q : Int), .int .i64 ((q : Int) + (n : Int)), .bool line] 24)) w2.heap.size ⟨kind, s.extract q (q + n), q, (q : Int) + (n : Int), line⟩ := heap_alloc_new _ _
    generalize World.alloc w2 _ = w3 at *
    generalize w2.heap.size = g at *
    have HK := Lib.hid hk
    clear hk hb1 hb2
    go_upto_region 9 with (go_at_call 14; refine (HM.out _ (by simp [ByteArray.data_append]) _ (HX.out.bel hb)).mono ?_; rintro e w4 ⟨vp2, cap2, rfl, hown, hb4⟩)
    have hk4 : TkAt (w4.alloc (.cells #[.int .i64 kind, .string (s.extract q (q + n)), .int .i64 ((q : Int) + 3), .int .i64 ((q : Int) + (n : Int) + 3), .bool true] 24)) w4.heap.size ⟨kind, s.extract q (q + n), (q : Int) + 3, (q : Int) + (n : Int) + 3, true⟩ := heap_alloc_new _ _
    have hk := (HK.out.bel hb4).bel (Below.alloc (Below.refl _ w4) (Nat.le_refl _) (.cells #[.int .i64 kind, .string (s.extract q (q + n)), .int .i64 ((q : Int) + 3), .int .i64 ((q : Int) + (n : Int) + 3), .bool true] 24))
    replace hb := (bel_next hb hb4).alloc (bel_next hb hb4).size (.cells #[.int .i64 kind, .string (s.extract q (q + n)), .int .i64 ((q : Int) + 3), .int .i64 ((q : Int) + (n : Int) + 3), .bool true] 24)
    generalize World.alloc w4 _ = w5 at *
    generalize w4.heap.size = g2 at *
    clear HK hb4 hown
    go_cut [64] from 57 to 64 (fun v wx => v = .bool false ∧ wx = w5)
    case first =>
      rcases HH.out with d1 | ⟨d1, d3, d2⟩
      · go_wp2_with fail
        go_meet
        exact ⟨rfl, rfl⟩
      · go_wp2_with fail
        go_meet
        exact ⟨rfl, rfl⟩
    case rest =>
      obtain ⟨rfl, rfl⟩ := hcut
      obtain ⟨d0, d1, d2, d3, d4, g0, g1, g2, g3, g4⟩ := TkAt.facts hk
      obtain ⟨x0, x1, x2, x3, x4, n0, n1, n2, n3, n4⟩ := TkAt.facts hk4
      cases line
      · go_wp2_with (go_at_call 15; refine (lnum_any _ _).mono ?_; rintro e w' ⟨rfl, rfl⟩)
        go_ret
        exact ⟨rfl, hb⟩
      · go_wp2_with (go_at_call 15; refine (lnum_any _ _).mono ?_; rintro e w' ⟨rfl, rfl⟩)
        go_ret
        exact ⟨rfl, hb⟩
set_option maxRecDepth 200000 in
set_option maxHeartbeats 4000000 in
theorem blanks_hash2 (s : ByteArray) (goal many : Int) (w : World) (hs : s.size ≤ 8388608) (hX : Lx w) (hg : goal = 1 ∨ goal = 2 ∨ goal = 5) (hm : (IntKind.u64.wrap many).tmod 5 = 2) (h : Lib.hasPrefix s.data.toList [35, 33] = true) :
    Calls Tryd.prog 4 #[.string s, .int .i64 goal, .int .i64 many] w fun e w' => e = .returned (.bool true) ∧ Below w.heap.size w w' := by
  have h2 := prefix_len h
  rw [ofl] at h2
  have h3 : 1 < s.size := h2
  have h4 : 2 ≤ s.size := h2
  have ht : ((s.extract 0 2).toList == [35, 33]) = true := by rw [two_bytes s h3]; exact h
  have d1 : decide ((1 : Int) < ((s.size : Nat) : Int)) = true := decide_eq_true (by omega)
  have HN := Lib.hid (fun W h => next_gen s 0 goal W (by omega) (Nat.zero_le _) h 0 rfl)
  have HM := Lib.hid (fun (T : ByteArray) (hT : T.data.toList = 97 :: 47 :: 42 :: 120 :: 42 :: 47 :: s.data.toList) W h => next_gen T 1 goal W (by rw [ba_size (P := [97, 47, 42, 120, 42, 47]) hT]; show 6 + s.size ≤ _; omega) (by rw [ba_size (P := [97, 47, 42, 120, 42, 47]) hT]; show 1 ≤ 6 + s.size; omega) h 1 rfl)
  have HA := Lib.hid (lawake_any w hX)
  have HX := Lib.hid hX
  clear hX h h2 h3

  have HG := Lib.hid hg
  clear hg
  go_enter Tryd.func4, Tryd.ntmps4
  go_upto_region 3 with (go_at_call 13; refine HA.out.mono ?_; rintro e w1 ⟨rfl, hb1⟩)
  go_cut [30] from 21 to 30 (fun v wx => v = .bool false ∧ wx = w1)
  case first =>
    rcases HG.out with rfl | rfl | rfl
    · go_wp2_with fail
      go_meet
      exact ⟨rfl, rfl⟩
    · go_wp2_with fail
      go_meet
      exact ⟨rfl, rfl⟩
    · go_wp2_with fail
      go_meet
      exact ⟨rfl, rfl⟩
  case rest =>
    obtain ⟨rfl, rfl⟩ := hcut
    go_upto_region 6 with fail
    go_upto_region 8 with (go_at_call 14; refine (HN.out _ (HX.out.bel (below_alloc2' hb1 _))).mono ?_; rintro e w2 ⟨kind, text, from', till, line, vp, n, cap, place, code, rfl, hb2⟩)
    have hb := (bel_next (below_alloc2' hb1 _) hb2).alloc (bel_next (below_alloc2' hb1 _) hb2).size (.cells #[.int .i64 kind, .string text, .int .i64 from', .int .i64 till, .bool line] 24)
    have hk : TkAt (w2.alloc (.cells #[.int .i64 kind, .string text, .int .i64 from', .int .i64 till, .bool line] 24)) w2.heap.size ⟨kind, text, from', till, line⟩ := heap_alloc_new _ _
    generalize World.alloc w2 _ = w3 at *
    generalize w2.heap.size = g at *
    have HK := Lib.hid hk
    clear hk hb1 hb2
    go_upto_region 9 with (go_at_call 14; refine (HM.out _ (by simp [ByteArray.data_append]) _ (HX.out.bel hb)).mono ?_; rintro e w4 ⟨kind', text', from2, till2, line2, vp2, n2, cap2, place2, code2, rfl, hb4⟩)
    have hk4 : TkAt (w4.alloc (.cells #[.int .i64 kind', .string text', .int .i64 from2, .int .i64 till2, .bool line2] 24)) w4.heap.size ⟨kind', text', from2, till2, line2⟩ := heap_alloc_new _ _
    have hk := (HK.out.bel hb4).bel (Below.alloc (Below.refl _ w4) (Nat.le_refl _) (.cells #[.int .i64 kind', .string text', .int .i64 from2, .int .i64 till2, .bool line2] 24))
    replace hb := (bel_next hb hb4).alloc (bel_next hb hb4).size (.cells #[.int .i64 kind', .string text', .int .i64 from2, .int .i64 till2, .bool line2] 24)
    generalize World.alloc w4 _ = w5 at *
    generalize w4.heap.size = g2 at *
    clear HK hb4
    go_wp2_with (go_at_call 15; refine (lnum_any _ _).mono ?_; rintro e w' ⟨rfl, rfl⟩)
    go_ret
    exact ⟨rfl, hb⟩
set_option maxRecDepth 200000 in
set_option maxHeartbeats 4000000 in
theorem blanks_bad2 (s : ByteArray) (goal many : Int) (w : World) (hs : s.size ≤ 8388608) (hX : Lx w) (hg : goal = 1 ∨ goal = 2 ∨ goal = 5) (hm : (IntKind.u64.wrap many).tmod 5 = 2) (h : Lib.hasPrefix s.data.toList [35, 33] = false) (place code : Int) (hp0 : 0 ≤ place) (hp1 : place ≤ s.size) (hc : code ≠ 0) (hO : nxt s 0 goal = .bad place code) :
    Calls Tryd.prog 4 #[.string s, .int .i64 goal, .int .i64 many] w fun e w' => e = .returned (.bool true) ∧ Below w.heap.size w w' := by
  have hN := fun W h => Next_any s 0 goal W (by omega) (Nat.zero_le _) h 0 rfl
  rw [hO] at hN
  simp only [NxPost, Tk.val, Tk.cells, Tk.zero] at hN
  have HN := Lib.hid hN
  have bc : (code != 0) = true := by rw [bne_iff_ne]; exact hc
  have HM := Lib.hid (fun (T : ByteArray) (hT : T.data.toList = 97 :: 47 :: 42 :: 120 :: 42 :: 47 :: s.data.toList) W hx => next_padbad (blank2 hg hT h) (by rw [ba_size (P := [97, 47, 42, 120, 42, 47]) hT]; show 6 + s.size ≤ _; omega) (by rw [ba_size (P := [97, 47, 42, 120, 42, 47]) hT]; show 1 ≤ 6 + s.size; omega) hO 6 rfl W hx)
  have hh : (decide ((1 : Int) < ((s.size : Nat) : Int)) = false) ∨ (decide ((1 : Int) < ((s.size : Nat) : Int)) = true ∧ 2 ≤ s.size ∧ ((s.extract 0 2).toList == [35, 33]) = false) := by
    by_cases h3 : 1 < s.size
    · exact .inr ⟨decide_eq_true (by omega), h3, by rw [two_bytes s h3]; exact h⟩
    · exact .inl (decide_eq_false (by omega))
  have HH := Lib.hid hh
  clear hh
  have HA := Lib.hid (lawake_any w hX)
  have HX := Lib.hid hX
  clear hX h hN hO hc

  have HG := Lib.hid hg
  clear hg
  go_enter Tryd.func4, Tryd.ntmps4
  go_upto_region 3 with (go_at_call 13; refine HA.out.mono ?_; rintro e w1 ⟨rfl, hb1⟩)
  go_cut [30] from 21 to 30 (fun v wx => v = .bool false ∧ wx = w1)
  case first =>
    rcases HG.out with rfl | rfl | rfl
    · go_wp2_with fail
      go_meet
      exact ⟨rfl, rfl⟩
    · go_wp2_with fail
      go_meet
      exact ⟨rfl, rfl⟩
    · go_wp2_with fail
      go_meet
      exact ⟨rfl, rfl⟩
  case rest =>
    obtain ⟨rfl, rfl⟩ := hcut
    go_upto_region 6 with fail
    go_upto_region 8 with (go_at_call 14; refine (HN.out _ (HX.out.bel (below_alloc2' hb1 _))).mono ?_; rintro e w2 ⟨rfl, hb2⟩)
    have hb := (bel_next (below_alloc2' hb1 _) hb2).alloc (bel_next (below_alloc2' hb1 _) hb2).size (.cells #[.int .i64 0, .string ⟨#[]⟩, .int .i64 0, .int .i64 0, .bool false] 24)
    have hk : TkAt (w2.alloc (.cells #[.int .i64 0, .string ⟨#[]⟩, .int .i64 0, .int .i64 0, .bool false] 24)) w2.heap.size ⟨0, ⟨#[]⟩, 0, 0, false⟩ := heap_alloc_new _ _
    generalize World.alloc w2 _ = w3 at *
    generalize w2.heap.size = g at *
    have HK := Lib.hid hk
    clear hk hb1 hb2
    go_upto_region 9 with (go_at_call 14; refine (HM.out _ (by simp [ByteArray.data_append]) _ (HX.out.bel hb)).mono ?_; rintro e w4 ⟨rfl, hb4⟩)
    have hk4 : TkAt (w4.alloc (.cells #[.int .i64 0, .string ⟨#[]⟩, .int .i64 0, .int .i64 0, .bool false] 24)) w4.heap.size ⟨0, ⟨#[]⟩, 0, 0, false⟩ := heap_alloc_new _ _
    have hk := (HK.out.bel hb4).bel (Below.alloc (Below.refl _ w4) (Nat.le_refl _) (.cells #[.int .i64 0, .string ⟨#[]⟩, .int .i64 0, .int .i64 0, .bool false] 24))
    replace hb := (bel_next hb hb4).alloc (bel_next hb hb4).size (.cells #[.int .i64 0, .string ⟨#[]⟩, .int .i64 0, .int .i64 0, .bool false] 24)
    generalize World.alloc w4 _ = w5 at *
    generalize w4.heap.size = g2 at *
    clear HK hb4
    go_cut [64] from 57 to 64 (fun v wx => v = .bool false ∧ wx = w5)
    case first =>
      rcases HH.out with d1 | ⟨d1, d3, d2⟩
      · go_wp2_with fail
        go_meet
        exact ⟨rfl, rfl⟩
      · go_wp2_with fail
        go_meet
        exact ⟨rfl, rfl⟩
    case rest =>
      obtain ⟨rfl, rfl⟩ := hcut
      go_wp2_with (go_at_call 15; refine (lnum_any _ _).mono ?_; rintro e w' ⟨rfl, rfl⟩)
      go_ret
      exact ⟨rfl, hb⟩
set_option maxRecDepth 200000 in
set_option maxHeartbeats 4000000 in
theorem blanks_fine2 (s : ByteArray) (goal many : Int) (w : World) (hs : s.size ≤ 8388608) (hX : Lx w) (hg : goal = 1 ∨ goal = 2 ∨ goal = 5) (hm : (IntKind.u64.wrap many).tmod 5 = 2) (h : Lib.hasPrefix s.data.toList [35, 33] = false) (kind : Int) (q n : Nat) (line : Bool) (cs : List Cm) (hqn : q + n ≤ s.size) (hcs : cs.length ≤ s.size) (hO : nxt s 0 goal = .fine kind q n line cs) :
    Calls Tryd.prog 4 #[.string s, .int .i64 goal, .int .i64 many] w fun e w' => e = .returned (.bool true) ∧ Below w.heap.size w w' := by
  have hN := fun W h => Next_any s 0 goal W (by omega) (Nat.zero_le _) h 0 rfl
  rw [hO] at hN
  simp only [NxPost, Tk.val, Tk.cells] at hN
  have HN := Lib.hid hN
  have HM := Lib.hid (fun (T : ByteArray) (hT : T.data.toList = 97 :: 47 :: 42 :: 120 :: 42 :: 47 :: s.data.toList) W hx => next_pad (blank2 hg hT h) (P := [97, 47, 42, 120, 42, 47]) hT rfl (by rw [ba_size (P := [97, 47, 42, 120, 42, 47]) hT]; show 6 + s.size ≤ _; omega) (by rw [ba_size (P := [97, 47, 42, 120, 42, 47]) hT]; show 1 ≤ 6 + s.size; omega) hO 6 rfl W hx)
  have hh : (decide ((1 : Int) < ((s.size : Nat) : Int)) = false) ∨ (decide ((1 : Int) < ((s.size : Nat) : Int)) = true ∧ 2 ≤ s.size ∧ ((s.extract 0 2).toList == [35, 33]) = false) := by
    by_cases h3 : 1 < s.size
    · exact .inr ⟨decide_eq_true (by omega), h3, by rw [two_bytes s h3]; exact h⟩
    · exact .inl (decide_eq_false (by omega))
  have HH := Lib.hid hh
  clear hh
  have HA := Lib.hid (lawake_any w hX)
  have HX := Lib.hid hX
  clear hX h hN hO

  have HG := Lib.hid hg
  clear hg
  go_enter Tryd.func4, Tryd.ntmps4
  go_upto_region 3 with (go_at_call 13; refine HA.out.mono ?_; rintro e w1 ⟨rfl, hb1⟩)
  go_cut [30] from 21 to 30 (fun v wx => v = .bool false ∧ wx = w1)
  case first =>
    rcases HG.out with rfl | rfl | rfl
    · go_wp2_with fail
      go_meet
      exact ⟨rfl, rfl⟩
    · go_wp2_with fail
      go_meet
      exact ⟨rfl, rfl⟩
    · go_wp2_with fail
      go_meet
      exact ⟨rfl, rfl⟩
  case rest =>
    obtain ⟨rfl, rfl⟩ := hcut
    go_upto_region 6 with fail
    go_upto_region 8 with (go_at_call 14; refine (HN.out _ (HX.out.bel (below_alloc2' hb1 _))).mono ?_; rintro e w2 ⟨v, rfl, ho, hb2⟩; obtain ⟨vp, cap, rfl⟩ := ho.form; clear ho)
    have hb := (bel_next (below_alloc2' hb1 _) hb2).alloc (bel_next (below_alloc2' hb1 _) hb2).size (.cells #[.int .i64 kind, .string (s.extract q (q + n)), .int .i64 (q : Int), .int .i64 ((q : Int) + (n : Int)), .bool line] 24)
    have hk : TkAt (w2.alloc (.cells #[.int .i64 kind, .string (s.extract q (q + n)), .int .i64 (q : Int), .int .i64 ((q : Int) + (n : Int)), .bool line] 24)) w2.heap.size ⟨kind, s.extract q (q + n), q, (q : Int) + (n : Int), line⟩ := heap_alloc_new _ _
    generalize World.alloc w2 _ = w3 at *
    generalize w2.heap.size = g at *
    have HK := Lib.hid hk
    clear hk hb1 hb2
    go_upto_region 9 with (go_at_call 14; refine (HM.out _ (by simp [ByteArray.data_append]) _ (HX.out.bel hb)).mono ?_; rintro e w4 ⟨vp2, cap2, rfl, hown, hb4⟩)
    have hk4 : TkAt (w4.alloc (.cells #[.int .i64 kind, .string (s.extract q (q + n)), .int .i64 ((q : Int) + 6), .int .i64 ((q : Int) + (n : Int) + 6), .bool line] 24)) w4.heap.size ⟨kind, s.extract q (q + n), (q : Int) + 6, (q : Int) + (n : Int) + 6, line⟩ := heap_alloc_new _ _
    have hk := (HK.out.bel hb4).bel (Below.alloc (Below.refl _ w4) (Nat.le_refl _) (.cells #[.int .i64 kind, .string (s.extract q (q + n)), .int .i64 ((q : Int) + 6), .int .i64 ((q : Int) + (n : Int) + 6), .bool line] 24))
    obtain ⟨gv, fz, rfl, hfz, hf1, hgl⟩ := hown trivial
    have hf := ((Below.alloc (Below.refl _ w4) (Nat.le_refl _) (.cells #[.int .i64 kind, .string (s.extract q (q + n)), .int .i64 ((q : Int) + 6), .int .i64 ((q : Int) + (n : Int) + 6), .bool line] 24)).cell (p := ⟨gv, 2, none⟩) hgl).trans hfz
    have df : decide (fz < 1) = false := decide_eq_false (by omega)
    replace hb := (bel_next hb hb4).alloc (bel_next hb hb4).size (.cells #[.int .i64 kind, .string (s.extract q (q + n)), .int .i64 ((q : Int) + 6), .int .i64 ((q : Int) + (n : Int) + 6), .bool line] 24)
    generalize World.alloc w4 _ = w5 at *
    generalize w4.heap.size = g2 at *
    clear HK hb4 hown hfz hf1 hgl
    go_cut [64] from 57 to 64 (fun v wx => v = .bool false ∧ wx = w5)
    case first =>
      rcases HH.out with d1 | ⟨d1, d3, d2⟩
      · go_wp2_with fail
        go_meet
        exact ⟨rfl, rfl⟩
      · go_wp2_with fail
        go_meet
        exact ⟨rfl, rfl⟩
    case rest =>
      obtain ⟨rfl, rfl⟩ := hcut
      obtain ⟨d0, d1, d2, d3, d4, g0, g1, g2, g3, g4⟩ := TkAt.facts hk
      obtain ⟨x0, x1, x2, x3, x4, n0, n1, n2, n3, n4⟩ := TkAt.facts hk4
      cases line
      · go_wp2_with (go_at_call 15; refine (lnum_any _ _).mono ?_; rintro e w' ⟨rfl, rfl⟩)
        go_ret
        exact ⟨rfl, hb⟩
      · go_wp2_with (go_at_call 15; refine (lnum_any _ _).mono ?_; rintro e w' ⟨rfl, rfl⟩)
        go_ret
        exact ⟨rfl, hb⟩
set_option maxRecDepth 200000 in
set_option maxHeartbeats 4000000 in
theorem blanks_hash3 (s : ByteArray) (goal many : Int) (w : World) (hs : s.size ≤ 8388608) (hX : Lx w) (hg : goal = 1 ∨ goal = 2 ∨ goal = 5) (hm : (IntKind.u64.wrap many).tmod 5 = 3) (h : Lib.hasPrefix s.data.toList [35, 33] = true) :
    Calls Tryd.prog 4 #[.string s, .int .i64 goal, .int .i64 many] w fun e w' => e = .returned (.bool true) ∧ Below w.heap.size w w' := by
  have h2 := prefix_len h
  rw [ofl] at h2
  have h3 : 1 < s.size := h2
  have h4 : 2 ≤ s.size := h2
  have ht : ((s.extract 0 2).toList == [35, 33]) = true := by rw [two_bytes s h3]; exact h
  have d1 : decide ((1 : Int) < ((s.size : Nat) : Int)) = true := decide_eq_true (by omega)
  have HN := Lib.hid (fun W h => next_gen s 0 goal W (by omega) (Nat.zero_le _) h 0 rfl)
  have HM := Lib.hid (fun (T : ByteArray) (hT : T.data.toList = 97 :: 47 :: 47 :: 121 :: 10 :: s.data.toList) W h => next_gen T 1 goal W (by rw [ba_size (P := [97, 47, 47, 121, 10]) hT]; show 5 + s.size ≤ _; omega) (by rw [ba_size (P := [97, 47, 47, 121, 10]) hT]; show 1 ≤ 5 + s.size; omega) h 1 rfl)
  have HA := Lib.hid (lawake_any w hX)
  have HX := Lib.hid hX
  clear hX h h2 h3

  have HG := Lib.hid hg
  clear hg
  go_enter Tryd.func4, Tryd.ntmps4
  go_upto_region 3 with (go_at_call 13; refine HA.out.mono ?_; rintro e w1 ⟨rfl, hb1⟩)
  go_cut [30] from 21 to 30 (fun v wx => v = .bool false ∧ wx = w1)
  case first =>
    rcases HG.out with rfl | rfl | rfl
    · go_wp2_with fail
      go_meet
      exact ⟨rfl, rfl⟩
    · go_wp2_with fail
      go_meet
      exact ⟨rfl, rfl⟩
    · go_wp2_with fail
      go_meet
      exact ⟨rfl, rfl⟩
  case rest =>
    obtain ⟨rfl, rfl⟩ := hcut
    go_upto_region 6 with fail
    go_upto_region 8 with (go_at_call 14; refine (HN.out _ (HX.out.bel (below_alloc2' hb1 _))).mono ?_; rintro e w2 ⟨kind, text, from', till, line, vp, n, cap, place, code, rfl, hb2⟩)
    have hb := (bel_next (below_alloc2' hb1 _) hb2).alloc (bel_next (below_alloc2' hb1 _) hb2).size (.cells #[.int .i64 kind, .string text, .int .i64 from', .int .i64 till, .bool line] 24)
    have hk : TkAt (w2.alloc (.cells #[.int .i64 kind, .string text, .int .i64 from', .int .i64 till, .bool line] 24)) w2.heap.size ⟨kind, text, from', till, line⟩ := heap_alloc_new _ _
    generalize World.alloc w2 _ = w3 at *
    generalize w2.heap.size = g at *
    have HK := Lib.hid hk
    clear hk hb1 hb2
    go_upto_region 9 with (go_at_call 14; refine (HM.out _ (by simp [ByteArray.data_append]) _ (HX.out.bel hb)).mono ?_; rintro e w4 ⟨kind', text', from2, till2, line2, vp2, n2, cap2, place2, code2, rfl, hb4⟩)
    have hk4 : TkAt (w4.alloc (.cells #[.int .i64 kind', .string text', .int .i64 from2, .int .i64 till2, .bool line2] 24)) w4.heap.size ⟨kind', text', from2, till2, line2⟩ := heap_alloc_new _ _
    have hk := (HK.out.bel hb4).bel (Below.alloc (Below.refl _ w4) (Nat.le_refl _) (.cells #[.int .i64 kind', .string text', .int .i64 from2, .int .i64 till2, .bool line2] 24))
    replace hb := (bel_next hb hb4).alloc (bel_next hb hb4).size (.cells #[.int .i64 kind', .string text', .int .i64 from2, .int .i64 till2, .bool line2] 24)
    generalize World.alloc w4 _ = w5 at *
    generalize w4.heap.size = g2 at *
    clear HK hb4
    go_wp2_with (go_at_call 15; refine (lnum_any _ _).mono ?_; rintro e w' ⟨rfl, rfl⟩)
    go_ret
    exact ⟨rfl, hb⟩
set_option maxRecDepth 200000 in
set_option maxHeartbeats 4000000 in
theorem blanks_bad3 (s : ByteArray) (goal many : Int) (w : World) (hs : s.size ≤ 8388608) (hX : Lx w) (hg : goal = 1 ∨ goal = 2 ∨ goal = 5) (hm : (IntKind.u64.wrap many).tmod 5 = 3) (h : Lib.hasPrefix s.data.toList [35, 33] = false) (place code : Int) (hp0 : 0 ≤ place) (hp1 : place ≤ s.size) (hc : code ≠ 0) (hO : nxt s 0 goal = .bad place code) :
    Calls Tryd.prog 4 #[.string s, .int .i64 goal, .int .i64 many] w fun e w' => e = .returned (.bool true) ∧ Below w.heap.size w w' := by
  have hN := fun W h => Next_any s 0 goal W (by omega) (Nat.zero_le _) h 0 rfl
  rw [hO] at hN
  simp only [NxPost, Tk.val, Tk.cells, Tk.zero] at hN
  have HN := Lib.hid hN
  have bc : (code != 0) = true := by rw [bne_iff_ne]; exact hc
  have HM := Lib.hid (fun (T : ByteArray) (hT : T.data.toList = 97 :: 47 :: 47 :: 121 :: 10 :: s.data.toList) W hx => next_padbad (blank3 hg hT h) (by rw [ba_size (P := [97, 47, 47, 121, 10]) hT]; show 5 + s.size ≤ _; omega) (by rw [ba_size (P := [97, 47, 47, 121, 10]) hT]; show 1 ≤ 5 + s.size; omega) hO 5 rfl W hx)
  have hh : (decide ((1 : Int) < ((s.size : Nat) : Int)) = false) ∨ (decide ((1 : Int) < ((s.size : Nat) : Int)) = true ∧ 2 ≤ s.size ∧ ((s.extract 0 2).toList == [35, 33]) = false) := by
    by_cases h3 : 1 < s.size
    · exact .inr ⟨decide_eq_true (by omega), h3, by rw [two_bytes s h3]; exact h⟩
    · exact .inl (decide_eq_false (by omega))
  have HH := Lib.hid hh
  clear hh
  have HA := Lib.hid (lawake_any w hX)
  have HX := Lib.hid hX
  clear hX h hN hO hc

  have HG := Lib.hid hg
  clear hg
  go_enter Tryd.func4, Tryd.ntmps4
  go_upto_region 3 with (go_at_call 13; refine HA.out.mono ?_; rintro e w1 ⟨rfl, hb1⟩)
  go_cut [30] from 21 to 30 (fun v wx => v = .bool false ∧ wx = w1)
  case first =>
    rcases HG.out with rfl | rfl | rfl
    · go_wp2_with fail
      go_meet
      exact ⟨rfl, rfl⟩
    · go_wp2_with fail
      go_meet
      exact ⟨rfl, rfl⟩
    · go_wp2_with fail
      go_meet
      exact ⟨rfl, rfl⟩
  case rest =>
    obtain ⟨rfl, rfl⟩ := hcut
    go_upto_region 6 with fail
    go_upto_region 8 with (go_at_call 14; refine (HN.out _ (HX.out.bel (below_alloc2' hb1 _))).mono ?_; rintro e w2 ⟨rfl, hb2⟩)
    have hb := (bel_next (below_alloc2' hb1 _) hb2).alloc (bel_next (below_alloc2' hb1 _) hb2).size (.cells #[.int .i64 0, .string ⟨#[]⟩, .int .i64 0, .int .i64 0, .bool false] 24)
    have hk : TkAt (w2.alloc (.cells #[.int .i64 0, .string ⟨#[]⟩, .int .i64 0, .int .i64 0, .bool false] 24)) w2.heap.size ⟨0, ⟨#[]⟩, 0, 0, false⟩ := heap_alloc_new _ _
    generalize World.alloc w2 _ = w3 at *
    generalize w2.heap.size = g at *
    have HK := Lib.hid hk
    clear hk hb1 hb2
    go_upto_region 9 with (go_at_call 14; refine (HM.out _ (by simp [ByteArray.data_append]) _ (HX.out.bel hb)).mono ?_; rintro e w4 ⟨rfl, hb4⟩)
    have hk4 : TkAt (w4.alloc (.cells #[.int .i64 0, .string ⟨#[]⟩, .int .i64 0, .int .i64 0, .bool false] 24)) w4.heap.size ⟨0, ⟨#[]⟩, 0, 0, false⟩ := heap_alloc_new _ _
    have hk := (HK.out.bel hb4).bel (Below.alloc (Below.refl _ w4) (Nat.le_refl _) (.cells #[.int .i64 0, .string ⟨#[]⟩, .int .i64 0, .int .i64 0, .bool false] 24))
    replace hb := (bel_next hb hb4).alloc (bel_next hb hb4).size (.cells #[.int .i64 0, .string ⟨#[]⟩, .int .i64 0, .int .i64 0, .bool false] 24)
    generalize World.alloc w4 _ = w5 at *
    generalize w4.heap.size = g2 at *
    clear HK hb4
    go_cut [64] from 57 to 64 (fun v wx => v = .bool false ∧ wx = w5)
    case first =>
      rcases HH.out with d1 | ⟨d1, d3, d2⟩
      · go_wp2_with fail
        go_meet
        exact ⟨rfl, rfl⟩
      · go_wp2_with fail
        go_meet
        exact ⟨rfl, rfl⟩
    case rest =>
      obtain ⟨rfl, rfl⟩ := hcut
      go_wp2_with (go_at_call 15; refine (lnum_any _ _).mono ?_; rintro e w' ⟨rfl, rfl⟩)
      go_ret
      exact ⟨rfl, hb⟩
set_option maxRecDepth 200000 in
set_option maxHeartbeats 4000000 in
theorem blanks_fine3 (s : ByteArray) (goal many : Int) (w : World) (hs : s.size ≤ 8388608) (hX : Lx w) (hg : goal = 1 ∨ goal = 2 ∨ goal = 5) (hm : (IntKind.u64.wrap many).tmod 5 = 3) (h : Lib.hasPrefix s.data.toList [35, 33] = false) (kind : Int) (q n : Nat) (line : Bool) (cs : List Cm) (hqn : q + n ≤ s.size) (hcs : cs.length ≤ s.size) (hO : nxt s 0 goal = .fine kind q n line cs) :
    Calls Tryd.prog 4 #[.string s, .int .i64 goal, .int .i64 many] w fun e w' => e = .returned (.bool true) ∧ Below w.heap.size w w' := by
  have hN := fun W h => Next_any s 0 goal W (by omega) (Nat.zero_le _) h 0 rfl
  rw [hO] at hN
  simp only [NxPost, Tk.val, Tk.cells] at hN
  have HN := Lib.hid hN
  have HM := Lib.hid (fun (T : ByteArray) (hT : T.data.toList = 97 :: 47 :: 47 :: 121 :: 10 :: s.data.toList) W hx => next_pad (blank3 hg hT h) (P := [97, 47, 47, 121, 10]) hT rfl (by rw [ba_size (P := [97, 47, 47, 121, 10]) hT]; show 5 + s.size ≤ _; omega) (by rw [ba_size (P := [97, 47, 47, 121, 10]) hT]; show 1 ≤ 5 + s.size; omega) hO 5 rfl W hx)
  have hh : (decide ((1 : Int) < ((s.size : Nat) : Int)) = false) ∨ (decide ((1 : Int) < ((s.size : Nat) : Int)) = true ∧ 2 ≤ s.size ∧ ((s.extract 0 2).toList == [35, 33]) = false) := by
    by_cases h3 : 1 < s.size
    · exact .inr ⟨decide_eq_true (by omega), h3, by rw [two_bytes s h3]; exact h⟩
    · exact .inl (decide_eq_false (by omega))
  have HH := Lib.hid hh
  clear hh
  have HA := Lib.hid (lawake_any w hX)
  have HX := Lib.hid hX
  clear hX h hN hO

  have HG := Lib.hid hg
  clear hg
  go_enter Tryd.func4, Tryd.ntmps4
  go_upto_region 3 with (go_at_call 13; refine HA.out.mono ?_; rintro e w1 ⟨rfl, hb1⟩)
  go_cut [30] from 21 to 30 (fun v wx => v = .bool false ∧ wx = w1)
  case first =>
    rcases HG.out with rfl | rfl | rfl
    · go_wp2_with fail
      go_meet
      exact ⟨rfl, rfl⟩
    · go_wp2_with fail
      go_meet
      exact ⟨rfl, rfl⟩
    · go_wp2_with fail
      go_meet
      exact ⟨rfl, rfl⟩
  case rest =>
    obtain ⟨rfl, rfl⟩ := hcut
    go_upto_region 6 with fail
    go_upto_region 8 with (go_at_call 14; refine (HN.out _ (HX.out.bel (below_alloc2' hb1 _))).mono ?_; rintro e w2 ⟨v, rfl, ho, hb2⟩; obtain ⟨vp, cap, rfl⟩ := ho.form; clear ho)
    have hb := (bel_next (below_alloc2' hb1 _) hb2).alloc (bel_next (below_alloc2' hb1 _) hb2).size (.cells #[.int .i64 kind, .string (s.extract q (q + n)), .int .i64 (q : Int), .int .i64 ((q : Int) + (n : Int)), .bool line] 24)
    have hk : TkAt (w2.alloc (.cells #[.int .i64 kind, .string (s.extract q (q + n)), .int .i64 (q : Int), .int .i64 ((q : Int) + (n : Int)), .bool line] 24)) w2.heap.size ⟨kind, s.extract q (q + n), q, (q : Int) + (n : Int), line⟩ := heap_alloc_new _ _
    generalize World.alloc w2 _ = w3 at *
    generalize w2.heap.size = g at *
    have HK := Lib.hid hk
    clear hk hb1 hb2
    go_upto_region 9 with (go_at_call 14; refine (HM.out _ (by simp [ByteArray.data_append]) _ (HX.out.bel hb)).mono ?_; rintro e w4 ⟨vp2, cap2, rfl, hown, hb4⟩)
    have hk4 : TkAt (w4.alloc (.cells #[.int .i64 kind, .string (s.extract q (q + n)), .int .i64 ((q : Int) + 5), .int .i64 ((q : Int) + (n : Int) + 5), .bool true] 24)) w4.heap.size ⟨kind, s.extract q (q + n), (q : Int) + 5, (q : Int) + (n : Int) + 5, true⟩ := heap_alloc_new _ _
    have hk := (HK.out.bel hb4).bel (Below.alloc (Below.refl _ w4) (Nat.le_refl _) (.cells #[.int .i64 kind, .string (s.extract q (q + n)), .int .i64 ((q : Int) + 5), .int .i64 ((q : Int) + (n : Int) + 5), .bool true] 24))
    obtain ⟨gv, fz, rfl, hfz, hf1, hgl⟩ := hown trivial
    have hf := ((Below.alloc (Below.refl _ w4) (Nat.le_refl _) (.cells #[.int .i64 kind, .string (s.extract q (q + n)), .int .i64 ((q : Int) + 5), .int .i64 ((q : Int) + (n : Int) + 5), .bool true] 24)).cell (p := ⟨gv, 2, none⟩) hgl).trans hfz
    have df : decide (fz < 1) = false := decide_eq_false (by omega)
    replace hb := (bel_next hb hb4).alloc (bel_next hb hb4).size (.cells #[.int .i64 kind, .string (s.extract q (q + n)), .int .i64 ((q : Int) + 5), .int .i64 ((q : Int) + (n : Int) + 5), .bool true] 24)
    generalize World.alloc w4 _ = w5 at *
    generalize w4.heap.size = g2 at *
    clear HK hb4 hown hfz hf1 hgl
    go_cut [64] from 57 to 64 (fun v wx => v = .bool false ∧ wx = w5)
    case first =>
      rcases HH.out with d1 | ⟨d1, d3, d2⟩
      · go_wp2_with fail
        go_meet
        exact ⟨rfl, rfl⟩
      · go_wp2_with fail
        go_meet
        exact ⟨rfl, rfl⟩
    case rest =>
      obtain ⟨rfl, rfl⟩ := hcut
      obtain ⟨d0, d1, d2, d3, d4, g0, g1, g2, g3, g4⟩ := TkAt.facts hk
      obtain ⟨x0, x1, x2, x3, x4, n0, n1, n2, n3, n4⟩ := TkAt.facts hk4
      cases line
      · go_wp2_with (go_at_call 15; refine (lnum_any _ _).mono ?_; rintro e w' ⟨rfl, rfl⟩)
        go_ret
        exact ⟨rfl, hb⟩
      · go_wp2_with (go_at_call 15; refine (lnum_any _ _).mono ?_; rintro e w' ⟨rfl, rfl⟩)
        go_ret
        exact ⟨rfl, hb⟩
set_option maxRecDepth 200000 in
set_option maxHeartbeats 4000000 in
theorem blanks_hash4 (s : ByteArray) (goal many : Int) (w : World) (hs : s.size ≤ 8388608) (hX : Lx w) (hg : goal = 1 ∨ goal = 2 ∨ goal = 5) (hm : (IntKind.u64.wrap many).tmod 5 = 4) (h : Lib.hasPrefix s.data.toList [35, 33] = true) :
    Calls Tryd.prog 4 #[.string s, .int .i64 goal, .int .i64 many] w fun e w' => e = .returned (.bool true) ∧ Below w.heap.size w w' := by
  have h2 := prefix_len h
  rw [ofl] at h2
  have h3 : 1 < s.size := h2
  have h4 : 2 ≤ s.size := h2
  have ht : ((s.extract 0 2).toList == [35, 33]) = true := by rw [two_bytes s h3]; exact h
  have d1 : decide ((1 : Int) < ((s.size : Nat) : Int)) = true := decide_eq_true (by omega)
  have HN := Lib.hid (fun W h => next_gen s 0 goal W (by omega) (Nat.zero_le _) h 0 rfl)
  have HM := Lib.hid (fun (T : ByteArray) (hT : T.data.toList = 97 :: 13 :: 10 :: 32 :: 47 :: 42 :: 10 :: 42 :: 47 :: 32 :: s.data.toList) W h => next_gen T 1 goal W (by rw [ba_size (P := [97, 13, 10, 32, 47, 42, 10, 42, 47, 32]) hT]; show 10 + s.size ≤ _; omega) (by rw [ba_size (P := [97, 13, 10, 32, 47, 42, 10, 42, 47, 32]) hT]; show 1 ≤ 10 + s.size; omega) h 1 rfl)
  have HA := Lib.hid (lawake_any w hX)
  have HX := Lib.hid hX
  clear hX h h2 h3

  have HG := Lib.hid hg
  clear hg
  go_enter Tryd.func4, Tryd.ntmps4
  go_upto_region 3 with (go_at_call 13; refine HA.out.mono ?_; rintro e w1 ⟨rfl, hb1⟩)
  go_cut [30] from 21 to 30 (fun v wx => v = .bool false ∧ wx = w1)
  case first =>
    rcases HG.out with rfl | rfl | rfl
    · go_wp2_with fail
      go_meet
      exact ⟨rfl, rfl⟩
    · go_wp2_with fail
      go_meet
      exact ⟨rfl, rfl⟩
    · go_wp2_with fail
      go_meet
      exact ⟨rfl, rfl⟩
  case rest =>
    obtain ⟨rfl, rfl⟩ := hcut
    go_upto_region 6 with fail
    go_upto_region 8 with (go_at_call 14; refine (HN.out _ (HX.out.bel (below_alloc2' hb1 _))).mono ?_; rintro e w2 ⟨kind, text, from', till, line, vp, n, cap, place, code, rfl, hb2⟩)
    have hb := (bel_next (below_alloc2' hb1 _) hb2).alloc (bel_next (below_alloc2' hb1 _) hb2).size (.cells #[.int .i64 kind, .string text, .int .i64 from', .int .i64 till, .bool line] 24)
    have hk : TkAt (w2.alloc (.cells #[.int .i64 kind, .string text, .int .i64 from', .int .i64 till, .bool line] 24)) w2.heap.size ⟨kind, text, from', till, line⟩ := heap_alloc_new _ _
    generalize World.alloc w2 _ = w3 at *
    generalize w2.heap.size = g at *
    have HK := Lib.hid hk
    clear hk hb1 hb2
    go_upto_region 9 with (go_at_call 14; refine (HM.out _ (by simp [ByteArray.data_append]) _ (HX.out.bel hb)).mono ?_; rintro e w4 ⟨kind', text', from2, till2, line2, vp2, n2, cap2, place2, code2, rfl, hb4⟩)
    have hk4 : TkAt (w4.alloc (.cells #[.int .i64 kind', .string text', .int .i64 from2, .int .i64 till2, .bool line2] 24)) w4.heap.size ⟨kind', text', from2, till2, line2⟩ := heap_alloc_new _ _
    have hk := (HK.out.bel hb4).bel (Below.alloc (Below.refl _ w4) (Nat.le_refl _) (.cells #[.int .i64 kind', .string text', .int .i64 from2, .int .i64 till2, .bool line2] 24))
    replace hb := (bel_next hb hb4).alloc (bel_next hb hb4).size (.cells #[.int .i64 kind', .string text', .int .i64 from2, .int .i64 till2, .bool line2] 24)
    generalize World.alloc w4 _ = w5 at *
    generalize w4.heap.size = g2 at *
    clear HK hb4
    go_wp2_with (go_at_call 15; refine (lnum_any _ _).mono ?_; rintro e w' ⟨rfl, rfl⟩)
    go_ret
    exact ⟨rfl, hb⟩
set_option maxRecDepth 200000 in
set_option maxHeartbeats 4000000 in
theorem blanks_bad4 (s : ByteArray) (goal many : Int) (w : World) (hs : s.size ≤ 8388608) (hX : Lx w) (hg : goal = 1 ∨ goal = 2 ∨ goal = 5) (hm : (IntKind.u64.wrap many).tmod 5 = 4) (h : Lib.hasPrefix s.data.toList [35, 33] = false) (place code : Int) (hp0 : 0 ≤ place) (hp1 : place ≤ s.size) (hc : code ≠ 0) (hO : nxt s 0 goal = .bad place code) :
    Calls Tryd.prog 4 #[.string s, .int .i64 goal, .int .i64 many] w fun e w' => e = .returned (.bool true) ∧ Below w.heap.size w w' := by
  have hN := fun W h => Next_any s 0 goal W (by omega) (Nat.zero_le _) h 0 rfl
  rw [hO] at hN
  simp only [NxPost, Tk.val, Tk.cells, Tk.zero] at hN
  have HN := Lib.hid hN
  have bc : (code != 0) = true := by rw [bne_iff_ne]; exact hc
  have HM := Lib.hid (fun (T : ByteArray) (hT : T.data.toList = 97 :: 13 :: 10 :: 32 :: 47 :: 42 :: 10 :: 42 :: 47 :: 32 :: s.data.toList) W hx => next_padbad (blank4 hg hT h) (by rw [ba_size (P := [97, 13, 10, 32, 47, 42, 10, 42, 47, 32]) hT]; show 10 + s.size ≤ _; omega) (by rw [ba_size (P := [97, 13, 10, 32, 47, 42, 10, 42, 47, 32]) hT]; show 1 ≤ 10 + s.size; omega) hO 10 rfl W hx)
  have hh : (decide ((1 : Int) < ((s.size : Nat) : Int)) = false) ∨ (decide ((1 : Int) < ((s.size : Nat) : Int)) = true ∧ 2 ≤ s.size ∧ ((s.extract 0 2).toList == [35, 33]) = false) := by
    by_cases h3 : 1 < s.size
    · exact .inr ⟨decide_eq_true (by omega), h3, by rw [two_bytes s h3]; exact h⟩
    · exact .inl (decide_eq_false (by omega))
  have HH := Lib.hid hh
  clear hh
  have HA := Lib.hid (lawake_any w hX)
  have HX := Lib.hid hX
  clear hX h hN hO hc

  have HG := Lib.hid hg
  clear hg
  go_enter Tryd.func4, Tryd.ntmps4
  go_upto_region 3 with (go_at_call 13; refine HA.out.mono ?_; rintro e w1 ⟨rfl, hb1⟩)
  go_cut [30] from 21 to 30 (fun v wx => v = .bool false ∧ wx = w1)
  case first =>
    rcases HG.out with rfl | rfl | rfl
    · go_wp2_with fail
      go_meet
      exact ⟨rfl, rfl⟩
    · go_wp2_with fail
      go_meet
      exact ⟨rfl, rfl⟩
    · go_wp2_with fail
      go_meet
      exact ⟨rfl, rfl⟩
  case rest =>
    obtain ⟨rfl, rfl⟩ := hcut
    go_upto_region 6 with fail
    go_upto_region 8 with (go_at_call 14; refine (HN.out _ (HX.out.bel (below_alloc2' hb1 _))).mono ?_; rintro e w2 ⟨rfl, hb2⟩)
    have hb := (bel_next (below_alloc2' hb1 _) hb2).alloc (bel_next (below_alloc2' hb1 _) hb2).size (.cells #[.int .i64 0, .string ⟨#[]⟩, .int .i64 0, .int .i64 0, .bool false] 24)
    have hk : TkAt (w2.alloc (.cells #[.int .i64 0, .string ⟨#[]⟩, .int .i64 0, .int .i64 0, .bool false] 24)) w2.heap.size ⟨0, ⟨#[]⟩, 0, 0, false⟩ := heap_alloc_new _ _
    generalize World.alloc w2 _ = w3 at *
    generalize w2.heap.size = g at *
    have HK := Lib.hid hk
    clear hk hb1 hb2
    go_upto_region 9 with (go_at_call 14; refine (HM.out _ (by simp [ByteArray.data_append]) _ (HX.out.bel hb)).mono ?_; rintro e w4 ⟨rfl, hb4⟩)
    have hk4 : TkAt (w4.alloc (.cells #[.int .i64 0, .string ⟨#[]⟩, .int .i64 0, .int .i64 0, .bool false] 24)) w4.heap.size ⟨0, ⟨#[]⟩, 0, 0, false⟩ := heap_alloc_new _ _
    have hk := (HK.out.bel hb4).bel (Below.alloc (Below.refl _ w4) (Nat.le_refl _) (.cells #[.int .i64 0, .string ⟨#[]⟩, .int .i64 0, .int .i64 0, .bool false] 24))
    replace hb := (bel_next hb hb4).alloc (bel_next hb hb4).size (.cells #[.int .i64 0, .string ⟨#[]⟩, .int .i64 0, .int .i64 0, .bool false] 24)
    generalize World.alloc w4 _ = w5 at *
    generalize w4.heap.size = g2 at *
    clear HK hb4
    go_cut [64] from 57 to 64 (fun v wx => v = .bool false ∧ wx = w5)
    case first =>
      rcases HH.out with d1 | ⟨d1, d3, d2⟩
      · go_wp2_with fail
        go_meet
        exact ⟨rfl, rfl⟩
      · go_wp2_with fail
        go_meet
        exact ⟨rfl, rfl⟩
    case rest =>
      obtain ⟨rfl, rfl⟩ := hcut
      go_wp2_with (go_at_call 15; refine (lnum_any _ _).mono ?_; rintro e w' ⟨rfl, rfl⟩)
      go_ret
      exact ⟨rfl, hb⟩
set_option maxRecDepth 200000 in
set_option maxHeartbeats 4000000 in
theorem blanks_fine4 (s : ByteArray) (goal many : Int) (w : World) (hs : s.size ≤ 8388608) (hX : Lx w) (hg : goal = 1 ∨ goal = 2 ∨ goal = 5) (hm : (IntKind.u64.wrap many).tmod 5 = 4) (h : Lib.hasPrefix s.data.toList [35, 33] = false) (kind : Int) (q n : Nat) (line : Bool) (cs : List Cm) (hqn : q + n ≤ s.size) (hcs : cs.length ≤ s.size) (hO : nxt s 0 goal = .fine kind q n line cs) :
    Calls Tryd.prog 4 #[.string s, .int .i64 goal, .int .i64 many] w fun e w' => e = .returned (.bool true) ∧ Below w.heap.size w w' := by
  have hN := fun W h => Next_any s 0 goal W (by omega) (Nat.zero_le _) h 0 rfl
  rw [hO] at hN
  simp only [NxPost, Tk.val, Tk.cells] at hN
  have HN := Lib.hid hN
  have HM := Lib.hid (fun (T : ByteArray) (hT : T.data.toList = 97 :: 13 :: 10 :: 32 :: 47 :: 42 :: 10 :: 42 :: 47 :: 32 :: s.data.toList) W hx => next_pad (blank4 hg hT h) (P := [97, 13, 10, 32, 47, 42, 10, 42, 47, 32]) hT rfl (by rw [ba_size (P := [97, 13, 10, 32, 47, 42, 10, 42, 47, 32]) hT]; show 10 + s.size ≤ _; omega) (by rw [ba_size (P := [97, 13, 10, 32, 47, 42, 10, 42, 47, 32]) hT]; show 1 ≤ 10 + s.size; omega) hO 10 rfl W hx)
  have hh : (decide ((1 : Int) < ((s.size : Nat) : Int)) = false) ∨ (decide ((1 : Int) < ((s.size : Nat) : Int)) = true ∧ 2 ≤ s.size ∧ ((s.extract 0 2).toList == [35, 33]) = false) := by
    by_cases h3 : 1 < s.size
    · exact .inr ⟨decide_eq_true (by omega), h3, by rw [two_bytes s h3]; exact h⟩
    · exact .inl (decide_eq_false (by omega))
  have HH := Lib.hid hh
  clear hh
  have HA := Lib.hid (lawake_any w hX)
  have HX := Lib.hid hX
  clear hX h hN hO

  have HG := Lib.hid hg
  clear hg
  go_enter Tryd.func4, Tryd.ntmps4
  go_upto_region 3 with (go_at_call 13; refine HA.out.mono ?_; rintro e w1 ⟨rfl, hb1⟩)
  go_cut [30] from 21 to 30 (fun v wx => v = .bool false ∧ wx = w1)
  case first =>
    rcases HG.out with rfl | rfl | rfl
    · go_wp2_with fail
      go_meet
      exact ⟨rfl, rfl⟩
    · go_wp2_with fail
      go_meet
      exact ⟨rfl, rfl⟩
    · go_wp2_with fail
      go_meet
      exact ⟨rfl, rfl⟩
  case rest =>
    obtain ⟨rfl, rfl⟩ := hcut
    go_upto_region 6 with fail
    go_upto_region 8 with (go_at_call 14; refine (HN.out _ (HX.out.bel (below_alloc2' hb1 _))).mono ?_; rintro e w2 ⟨v, rfl, ho, hb2⟩; obtain ⟨vp, cap, rfl⟩ := ho.form; clear ho)
    have hb := (bel_next (below_alloc2' hb1 _) hb2).alloc (bel_next (below_alloc2' hb1 _) hb2).size (.cells #[.int .i64 kind, .string (s.extract q (q + n)), .int .i64 (q : Int), .int .i64 ((q : Int) + (n : Int)), .bool line] 24)
    have hk : TkAt (w2.alloc (.cells #[.int .i64 kind, .string (s.extract q (q + n)), .int .i64 (q : Int), .int .i64 ((q : Int) + (n : Int)), .bool line] 24)) w2.heap.size ⟨kind, s.extract q (q + n), q, (q : Int) + (n : Int), line⟩ := heap_alloc_new _ _
    generalize World.alloc w2 _ = w3 at *
    generalize w2.heap.size = g at *
    have HK := Lib.hid hk
    clear hk hb1 hb2
    go_upto_region 9 with (go_at_call 14; refine (HM.out _ (by simp [ByteArray.data_append]) _ (HX.out.bel hb)).mono ?_; rintro e w4 ⟨vp2, cap2, rfl, hown, hb4⟩)
    have hk4 : TkAt (w4.alloc (.cells #[.int .i64 kind, .string (s.extract q (q + n)), .int .i64 ((q : Int) + 10), .int .i64 ((q : Int) + (n : Int) + 10), .bool true] 24)) w4.heap.size ⟨kind, s.extract q (q + n), (q : Int) + 10, (q : Int) + (n : Int) + 10, true⟩ := heap_alloc_new _ _
    have hk := (HK.out.bel hb4).bel (Below.alloc (Below.refl _ w4) (Nat.le_refl _) (.cells #[.int .i64 kind, .string (s.extract q (q + n)), .int .i64 ((q : Int) + 10), .int .i64 ((q : Int) + (n : Int) + 10), .bool true] 24))
    obtain ⟨gv, fz, rfl, hfz, hf1, hgl⟩ := hown trivial
    have hf := ((Below.alloc (Below.refl _ w4) (Nat.le_refl _) (.cells #[.int .i64 kind, .string (s.extract q (q + n)), .int .i64 ((q : Int) + 10), .int .i64 ((q : Int) + (n : Int) + 10), .bool true] 24)).cell (p := ⟨gv, 2, none⟩) hgl).trans hfz
    have df : decide (fz < 1) = false := decide_eq_false (by omega)
    replace hb := (bel_next hb hb4).alloc (bel_next hb hb4).size (.cells #[.int .i64 kind, .string (s.extract q (q + n)), .int .i64 ((q : Int) + 10), .int .i64 ((q : Int) + (n : Int) + 10), .bool true] 24)
    generalize World.alloc w4 _ = w5 at *
    generalize w4.heap.size = g2 at *
    clear HK hb4 hown hfz hf1 hgl
    go_cut [64] from 57 to 64 (fun v wx => v = .bool false ∧ wx = w5)
    case first =>
      rcases HH.out with d1 | ⟨d1, d3, d2⟩
      · go_wp2_with fail
        go_meet
        exact ⟨rfl, rfl⟩
      · go_wp2_with fail
        go_meet
        exact ⟨rfl, rfl⟩
    case rest =>
      obtain ⟨rfl, rfl⟩ := hcut
      obtain ⟨d0, d1, d2, d3, d4, g0, g1, g2, g3, g4⟩ := TkAt.facts hk
      obtain ⟨x0, x1, x2, x3, x4, n0, n1, n2, n3, n4⟩ := TkAt.facts hk4
      cases line
      · go_wp2_with (go_at_call 15; refine (lnum_any _ _).mono ?_; rintro e w' ⟨rfl, rfl⟩)
        go_ret
        exact ⟨rfl, hb⟩
      · go_wp2_with (go_at_call 15; refine (lnum_any _ _).mono ?_; rintro e w' ⟨rfl, rfl⟩)
        go_ret
        exact ⟨rfl, hb⟩
set_option maxRecDepth 200000 in
set_option maxHeartbeats 2000000 in
theorem blanks_any (s : ByteArray) (goal many : Int) (w : World) (hs : s.size ≤ 8388608) (hX : Lx w) :
    Calls Tryd.prog 4 #[.string s, .int .i64 goal, .int .i64 many] w fun e w' => e = .returned (.bool true) ∧ Below w.heap.size w w' := by
  by_cases hg : goal = 1 ∨ goal = 2 ∨ goal = 5
  · have hr0 : 0 ≤ (IntKind.u64.wrap many).tmod 5 ∧ (IntKind.u64.wrap many).tmod 5 < 5 := by
      have e : IntKind.u64.wrap many = many % 18446744073709551616 := rfl
      rw [e, Int.tmod_eq_emod_of_nonneg (by omega)]
      omega
    have h5 : ∀ r : Int, 0 ≤ r ∧ r < 5 → r = 0 ∨ r = 1 ∨ r = 2 ∨ r = 3 ∨ r = 4 := by omega
    have hnz := nxt_nz s 0 goal (Nat.zero_le _)
    have hin := nxt_in s 0 goal (Nat.zero_le _)
    rcases h5 _ hr0 with hm | hm | hm | hm | hm
    · cases hh : Lib.hasPrefix s.data.toList [35, 33] with
      | true => exact blanks_hash0 s goal many w hs hX hg hm hh
      | false =>
        cases hO : nxt s 0 goal with
        | bad place code =>
          rw [hO] at hnz hin
          exact blanks_bad0 s goal many w hs hX hg hm hh place code hin.1 hin.2 hnz hO
        | fine kind q n line cs =>
          rw [hO] at hin
          exact blanks_fine0 s goal many w hs hX hg hm hh kind q n line cs hin.2.1 hO
    · cases hh : Lib.hasPrefix s.data.toList [35, 33] with
      | true => exact blanks_hash1 s goal many w hs hX hg hm hh
      | false =>
        cases hO : nxt s 0 goal with
        | bad place code =>
          rw [hO] at hnz hin
          exact blanks_bad1 s goal many w hs hX hg hm hh place code hin.1 hin.2 hnz hO
        | fine kind q n line cs =>
          rw [hO] at hin
          exact blanks_fine1 s goal many w hs hX hg hm hh kind q n line cs hin.2.1 hO
    · cases hh : Lib.hasPrefix s.data.toList [35, 33] with
      | true => exact blanks_hash2 s goal many w hs hX hg hm hh
      | false =>
        cases hO : nxt s 0 goal with
        | bad place code =>
          rw [hO] at hnz hin
          exact blanks_bad2 s goal many w hs hX hg hm hh place code hin.1 hin.2 hnz hO
        | fine kind q n line cs =>
          rw [hO] at hin
          exact blanks_fine2 s goal many w hs hX hg hm hh kind q n line cs hin.2.1 (by have := CmsIn.len cs hin.1; have := hin.2.1; omega) hO
    · cases hh : Lib.hasPrefix s.data.toList [35, 33] with
      | true => exact blanks_hash3 s goal many w hs hX hg hm hh
      | false =>
        cases hO : nxt s 0 goal with
        | bad place code =>
          rw [hO] at hnz hin
          exact blanks_bad3 s goal many w hs hX hg hm hh place code hin.1 hin.2 hnz hO
        | fine kind q n line cs =>
          rw [hO] at hin
          exact blanks_fine3 s goal many w hs hX hg hm hh kind q n line cs hin.2.1 (by have := CmsIn.len cs hin.1; have := hin.2.1; omega) hO
    · cases hh : Lib.hasPrefix s.data.toList [35, 33] with
      | true => exact blanks_hash4 s goal many w hs hX hg hm hh
      | false =>
        cases hO : nxt s 0 goal with
        | bad place code =>
          rw [hO] at hnz hin
          exact blanks_bad4 s goal many w hs hX hg hm hh place code hin.1 hin.2 hnz hO
        | fine kind q n line cs =>
          rw [hO] at hin
          exact blanks_fine4 s goal many w hs hX hg hm hh kind q n line cs hin.2.1 (by have := CmsIn.len cs hin.1; have := hin.2.1; omega) hO
  · have hA := lawake_any w hX
    have b1 : (goal != 1) = true := by rw [bne_iff_ne]; omega
    have b2 : (goal != 2) = true := by rw [bne_iff_ne]; omega
    have b3 : (goal != 5) = true := by rw [bne_iff_ne]; omega
    have HA := Lib.hid hA
    clear hA hX hs hg
    go_enter Tryd.func4, Tryd.ntmps4
    go_upto_region 3 with (go_at_call 13; refine HA.out.mono ?_; rintro e w1 ⟨rfl, hb1⟩)
    go_wp2_with fail
    go_ret
    exact ⟨rfl, hb1⟩
end Go.Proofs.YtdkkfbakggbaeaaDoor
