/- AstKinds' own function: it answers true. Condition: what a law of lex leans on. -/
import Derived.Test.YteejjkfmmhegmaaGreatDoorMf
namespace Go.Proofs.YteejjkfmmhegmaaGreatDoor
open Go.RowKit
theorem u64_mod (z : Int) (L : Nat) (h : 0 < L) : ∃ k : Nat, k < L ∧ (IntKind.u64.wrap z).tmod (L : Int) = (k : Int) := by
  have e : IntKind.u64.wrap z = z % 18446744073709551616 := rfl
  have h1 : 0 ≤ z % 18446744073709551616 := Int.emod_nonneg _ (by decide)
  rw [e, Int.tmod_eq_emod_of_nonneg h1]
  have h2 := Int.emod_nonneg (z % 18446744073709551616) (b := (L : Int)) (by omega)
  have h3 := Int.emod_lt_of_pos (z % 18446744073709551616) (b := (L : Int)) (by omega)
  exact ⟨((z % 18446744073709551616) % (L : Int)).toNat, by omega, by omega⟩
theorem tab_any (i j : Nat) (hi : i < kTexts.length) (hj : j < kKinds.length) (w : World) (hX : Lx w) :
    Calls Tryz.prog 19 #[.agg #[.int .i64 kKinds[j], .string kTexts[i], .slice none 0 0, .int .i64 0, .int .i64 0]] w fun e w' => e = .returned (.int .i64 (if kFine i j then 0 else 800)) ∧ Below w.heap.size w w' := by
  match j, hj with
  | 0, _ => exact tab_0 w hX i hi
  | 1, _ => exact tab_1 w hX i hi
  | 2, _ => exact tab_2 w hX i hi
  | 3, _ => exact tab_3 w hX i hi
  | 4, _ => exact tab_4 w hX i hi
  | 5, _ => exact tab_5 w hX i hi
  | 6, _ => exact tab_6 w hX i hi
  | j + 7, h => exact absurd h (by simp [kKinds])
set_option maxRecDepth 20000 in
set_option maxHeartbeats 4000000 in
theorem kinds_0 (pick kind : Int) (w : World) (hX : Lx w) (hie : (IntKind.u64.wrap pick).tmod 14 = 0) : Calls Tryz.prog 6 #[.int .i64 pick, .int .i64 kind] w fun e w' => e = .returned (.bool true) ∧ Below w.heap.size w w' := by
  obtain ⟨j, hj, hje⟩ := u64_mod kind 7 (by decide)
  have HX := Lib.hid hX
  have HI := Lib.hid hie
  have HJ := Lib.hid (show (IntKind.u64.wrap kind).tmod 7 = (j : Int) from hje)
  clear hX hie hje
  go_enter Tryz.func6, Tryz.ntmps6
  go_upto_region 5 with (go_at_call 13; refine (awake_any _).mono ?_; rintro e w1 ⟨rfl, hb1⟩)
  rw [HI.out, show wrap64 0 = 0 from IntWalk.wrap64_in _ (by decide)]
  have hbx := heap_alloc_new w1 (.cells #[.string ⟨#[97]⟩, .string ⟨#[108, 101, 116]⟩, .string ⟨#[35, 97]⟩, .string ⟨#[49]⟩, .string ⟨#[49, 110]⟩, .string ⟨#[39, 97, 39]⟩, .string ⟨#[47, 97, 47]⟩, .string ⟨#[116, 104, 105, 115]⟩, .string ⟨#[110, 101, 119, 46, 116, 97, 114, 103, 101, 116]⟩, .string ⟨#[97, 119, 97, 105, 116]⟩, .string ⟨#[115, 117, 112, 101, 114]⟩, .string ⟨#[97, 32, 98]⟩, .string ⟨#[]⟩, .string ⟨#[117, 110, 100, 101, 102, 105, 110, 101, 100]⟩] 9)
  have hb2 := hb1.alloc hb1.size (.cells #[.string ⟨#[97]⟩, .string ⟨#[108, 101, 116]⟩, .string ⟨#[35, 97]⟩, .string ⟨#[49]⟩, .string ⟨#[49, 110]⟩, .string ⟨#[39, 97, 39]⟩, .string ⟨#[47, 97, 47]⟩, .string ⟨#[116, 104, 105, 115]⟩, .string ⟨#[110, 101, 119, 46, 116, 97, 114, 103, 101, 116]⟩, .string ⟨#[97, 119, 97, 105, 116]⟩, .string ⟨#[115, 117, 112, 101, 114]⟩, .string ⟨#[97, 32, 98]⟩, .string ⟨#[]⟩, .string ⟨#[117, 110, 100, 101, 102, 105, 110, 101, 100]⟩] 9)
  generalize World.alloc w1 _ = w2 at *
  generalize w1.heap.size = p at *
  have c0 := cell_of_row w2 p 0 _ _ _ hbx
  have hpl := (Array.getElem?_eq_some_iff.1 hbx).1
  have HB2 := Lib.hid hb2
  clear hbx hb1 hb2 HI
  go_upto_region 6 with fail
  clear c0
  have hjj : j < kKinds.length := hj
  have hky := heap_alloc_new w2 (.cells #[.int .i64 1, .int .i64 3, .int .i64 4, .int .i64 5, .int .i64 6, .int .i64 7, .int .i64 2] 3)
  have hb3 := HB2.out.alloc HB2.out.size (.cells #[.int .i64 1, .int .i64 3, .int .i64 4, .int .i64 5, .int .i64 6, .int .i64 7, .int .i64 2] 3)
  have c1 : (w2.alloc (.cells #[.int .i64 1, .int .i64 3, .int .i64 4, .int .i64 5, .int .i64 6, .int .i64 7, .int .i64 2] 3)).cell? ⟨w2.heap.size, j, none⟩ = some (.int .i64 kKinds[j]) := by
    rw [cell_of_row _ w2.heap.size j _ _ _ hky]
    match j, hj with
    | 0, _ => rfl
    | 1, _ => rfl
    | 2, _ => rfl
    | 3, _ => rfl
    | 4, _ => rfl
    | 5, _ => rfl
    | 6, _ => rfl
  have HCK := Lib.hid (tab_any 0 j (by decide) hjj _ (HX.out.bel hb3))
  have HB3 := Lib.hid hb3
  have hJ := HJ.out
  clear hky hb3
  go_wp2_with fail
  refine HCK.out.mono ?_
  rintro e w4 ⟨rfl, hb4⟩
  have HB4 := Lib.hid (bel_next HB3.out hb4)
  clear hb4 HCK c1 hJ hpl HB3 HB2
  have h7 : j = 0 ∨ j = 1 ∨ j = 2 ∨ j = 3 ∨ j = 4 ∨ j = 5 ∨ j = 6 := by omega
  generalize kKinds[j] = kk at *
  clear hjj hj
  rcases h7 with rfl | rfl | rfl | rfl | rfl | rfl | rfl
  · rw [show kFine 0 0 = true from rfl]
    have hJ : (IntKind.u64.wrap kind).tmod 7 = 0 := HJ.out
    go_wp2_with (go_at_call 20; refine (num_any _ _).mono ?_; rintro e w' ⟨rfl, rfl⟩)
    go_ret
    exact ⟨rfl, HB4.out⟩
  · rw [show kFine 0 1 = false from rfl]
    have hJ : (IntKind.u64.wrap kind).tmod 7 = 1 := HJ.out
    go_wp2_with (go_at_call 20; refine (num_any _ _).mono ?_; rintro e w' ⟨rfl, rfl⟩)
    go_ret
    exact ⟨rfl, HB4.out⟩
  · rw [show kFine 0 2 = false from rfl]
    have hJ : (IntKind.u64.wrap kind).tmod 7 = 2 := HJ.out
    go_wp2_with (go_at_call 20; refine (num_any _ _).mono ?_; rintro e w' ⟨rfl, rfl⟩)
    go_ret
    exact ⟨rfl, HB4.out⟩
  · rw [show kFine 0 3 = false from rfl]
    have hJ : (IntKind.u64.wrap kind).tmod 7 = 3 := HJ.out
    go_wp2_with (go_at_call 20; refine (num_any _ _).mono ?_; rintro e w' ⟨rfl, rfl⟩)
    go_ret
    exact ⟨rfl, HB4.out⟩
  · rw [show kFine 0 4 = false from rfl]
    have hJ : (IntKind.u64.wrap kind).tmod 7 = 4 := HJ.out
    go_wp2_with (go_at_call 20; refine (num_any _ _).mono ?_; rintro e w' ⟨rfl, rfl⟩)
    go_ret
    exact ⟨rfl, HB4.out⟩
  · rw [show kFine 0 5 = false from rfl]
    have hJ : (IntKind.u64.wrap kind).tmod 7 = 5 := HJ.out
    go_wp2_with (go_at_call 20; refine (num_any _ _).mono ?_; rintro e w' ⟨rfl, rfl⟩)
    go_ret
    exact ⟨rfl, HB4.out⟩
  · rw [show kFine 0 6 = false from rfl]
    have hJ : (IntKind.u64.wrap kind).tmod 7 = 6 := HJ.out
    go_wp2_with (go_at_call 20; refine (num_any _ _).mono ?_; rintro e w' ⟨rfl, rfl⟩)
    go_ret
    exact ⟨rfl, HB4.out⟩
set_option maxRecDepth 20000 in
set_option maxHeartbeats 4000000 in
theorem kinds_1 (pick kind : Int) (w : World) (hX : Lx w) (hie : (IntKind.u64.wrap pick).tmod 14 = 1) : Calls Tryz.prog 6 #[.int .i64 pick, .int .i64 kind] w fun e w' => e = .returned (.bool true) ∧ Below w.heap.size w w' := by
  obtain ⟨j, hj, hje⟩ := u64_mod kind 7 (by decide)
  have HX := Lib.hid hX
  have HI := Lib.hid hie
  have HJ := Lib.hid (show (IntKind.u64.wrap kind).tmod 7 = (j : Int) from hje)
  clear hX hie hje
  go_enter Tryz.func6, Tryz.ntmps6
  go_upto_region 5 with (go_at_call 13; refine (awake_any _).mono ?_; rintro e w1 ⟨rfl, hb1⟩)
  rw [HI.out, show wrap64 1 = 1 from IntWalk.wrap64_in _ (by decide)]
  have hbx := heap_alloc_new w1 (.cells #[.string ⟨#[97]⟩, .string ⟨#[108, 101, 116]⟩, .string ⟨#[35, 97]⟩, .string ⟨#[49]⟩, .string ⟨#[49, 110]⟩, .string ⟨#[39, 97, 39]⟩, .string ⟨#[47, 97, 47]⟩, .string ⟨#[116, 104, 105, 115]⟩, .string ⟨#[110, 101, 119, 46, 116, 97, 114, 103, 101, 116]⟩, .string ⟨#[97, 119, 97, 105, 116]⟩, .string ⟨#[115, 117, 112, 101, 114]⟩, .string ⟨#[97, 32, 98]⟩, .string ⟨#[]⟩, .string ⟨#[117, 110, 100, 101, 102, 105, 110, 101, 100]⟩] 9)
  have hb2 := hb1.alloc hb1.size (.cells #[.string ⟨#[97]⟩, .string ⟨#[108, 101, 116]⟩, .string ⟨#[35, 97]⟩, .string ⟨#[49]⟩, .string ⟨#[49, 110]⟩, .string ⟨#[39, 97, 39]⟩, .string ⟨#[47, 97, 47]⟩, .string ⟨#[116, 104, 105, 115]⟩, .string ⟨#[110, 101, 119, 46, 116, 97, 114, 103, 101, 116]⟩, .string ⟨#[97, 119, 97, 105, 116]⟩, .string ⟨#[115, 117, 112, 101, 114]⟩, .string ⟨#[97, 32, 98]⟩, .string ⟨#[]⟩, .string ⟨#[117, 110, 100, 101, 102, 105, 110, 101, 100]⟩] 9)
  generalize World.alloc w1 _ = w2 at *
  generalize w1.heap.size = p at *
  have c0 := cell_of_row w2 p 1 _ _ _ hbx
  have hpl := (Array.getElem?_eq_some_iff.1 hbx).1
  have HB2 := Lib.hid hb2
  clear hbx hb1 hb2 HI
  go_upto_region 6 with fail
  clear c0
  have hjj : j < kKinds.length := hj
  have hky := heap_alloc_new w2 (.cells #[.int .i64 1, .int .i64 3, .int .i64 4, .int .i64 5, .int .i64 6, .int .i64 7, .int .i64 2] 3)
  have hb3 := HB2.out.alloc HB2.out.size (.cells #[.int .i64 1, .int .i64 3, .int .i64 4, .int .i64 5, .int .i64 6, .int .i64 7, .int .i64 2] 3)
  have c1 : (w2.alloc (.cells #[.int .i64 1, .int .i64 3, .int .i64 4, .int .i64 5, .int .i64 6, .int .i64 7, .int .i64 2] 3)).cell? ⟨w2.heap.size, j, none⟩ = some (.int .i64 kKinds[j]) := by
    rw [cell_of_row _ w2.heap.size j _ _ _ hky]
    match j, hj with
    | 0, _ => rfl
    | 1, _ => rfl
    | 2, _ => rfl
    | 3, _ => rfl
    | 4, _ => rfl
    | 5, _ => rfl
    | 6, _ => rfl
  have HCK := Lib.hid (tab_any 1 j (by decide) hjj _ (HX.out.bel hb3))
  have HB3 := Lib.hid hb3
  have hJ := HJ.out
  clear hky hb3
  go_wp2_with fail
  refine HCK.out.mono ?_
  rintro e w4 ⟨rfl, hb4⟩
  have HB4 := Lib.hid (bel_next HB3.out hb4)
  clear hb4 HCK c1 hJ hpl HB3 HB2
  have h7 : j = 0 ∨ j = 1 ∨ j = 2 ∨ j = 3 ∨ j = 4 ∨ j = 5 ∨ j = 6 := by omega
  generalize kKinds[j] = kk at *
  clear hjj hj
  rcases h7 with rfl | rfl | rfl | rfl | rfl | rfl | rfl
  · rw [show kFine 1 0 = false from rfl]
    have hJ : (IntKind.u64.wrap kind).tmod 7 = 0 := HJ.out
    go_wp2_with (go_at_call 20; refine (num_any _ _).mono ?_; rintro e w' ⟨rfl, rfl⟩)
    go_ret
    exact ⟨rfl, HB4.out⟩
  · rw [show kFine 1 1 = false from rfl]
    have hJ : (IntKind.u64.wrap kind).tmod 7 = 1 := HJ.out
    go_wp2_with (go_at_call 20; refine (num_any _ _).mono ?_; rintro e w' ⟨rfl, rfl⟩)
    go_ret
    exact ⟨rfl, HB4.out⟩
  · rw [show kFine 1 2 = false from rfl]
    have hJ : (IntKind.u64.wrap kind).tmod 7 = 2 := HJ.out
    go_wp2_with (go_at_call 20; refine (num_any _ _).mono ?_; rintro e w' ⟨rfl, rfl⟩)
    go_ret
    exact ⟨rfl, HB4.out⟩
  · rw [show kFine 1 3 = false from rfl]
    have hJ : (IntKind.u64.wrap kind).tmod 7 = 3 := HJ.out
    go_wp2_with (go_at_call 20; refine (num_any _ _).mono ?_; rintro e w' ⟨rfl, rfl⟩)
    go_ret
    exact ⟨rfl, HB4.out⟩
  · rw [show kFine 1 4 = false from rfl]
    have hJ : (IntKind.u64.wrap kind).tmod 7 = 4 := HJ.out
    go_wp2_with (go_at_call 20; refine (num_any _ _).mono ?_; rintro e w' ⟨rfl, rfl⟩)
    go_ret
    exact ⟨rfl, HB4.out⟩
  · rw [show kFine 1 5 = false from rfl]
    have hJ : (IntKind.u64.wrap kind).tmod 7 = 5 := HJ.out
    go_wp2_with (go_at_call 20; refine (num_any _ _).mono ?_; rintro e w' ⟨rfl, rfl⟩)
    go_ret
    exact ⟨rfl, HB4.out⟩
  · rw [show kFine 1 6 = false from rfl]
    have hJ : (IntKind.u64.wrap kind).tmod 7 = 6 := HJ.out
    go_wp2_with (go_at_call 20; refine (num_any _ _).mono ?_; rintro e w' ⟨rfl, rfl⟩)
    go_ret
    exact ⟨rfl, HB4.out⟩
set_option maxRecDepth 20000 in
set_option maxHeartbeats 4000000 in
theorem kinds_2 (pick kind : Int) (w : World) (hX : Lx w) (hie : (IntKind.u64.wrap pick).tmod 14 = 2) : Calls Tryz.prog 6 #[.int .i64 pick, .int .i64 kind] w fun e w' => e = .returned (.bool true) ∧ Below w.heap.size w w' := by
  obtain ⟨j, hj, hje⟩ := u64_mod kind 7 (by decide)
  have HX := Lib.hid hX
  have HI := Lib.hid hie
  have HJ := Lib.hid (show (IntKind.u64.wrap kind).tmod 7 = (j : Int) from hje)
  clear hX hie hje
  go_enter Tryz.func6, Tryz.ntmps6
  go_upto_region 5 with (go_at_call 13; refine (awake_any _).mono ?_; rintro e w1 ⟨rfl, hb1⟩)
  rw [HI.out, show wrap64 2 = 2 from IntWalk.wrap64_in _ (by decide)]
  have hbx := heap_alloc_new w1 (.cells #[.string ⟨#[97]⟩, .string ⟨#[108, 101, 116]⟩, .string ⟨#[35, 97]⟩, .string ⟨#[49]⟩, .string ⟨#[49, 110]⟩, .string ⟨#[39, 97, 39]⟩, .string ⟨#[47, 97, 47]⟩, .string ⟨#[116, 104, 105, 115]⟩, .string ⟨#[110, 101, 119, 46, 116, 97, 114, 103, 101, 116]⟩, .string ⟨#[97, 119, 97, 105, 116]⟩, .string ⟨#[115, 117, 112, 101, 114]⟩, .string ⟨#[97, 32, 98]⟩, .string ⟨#[]⟩, .string ⟨#[117, 110, 100, 101, 102, 105, 110, 101, 100]⟩] 9)
  have hb2 := hb1.alloc hb1.size (.cells #[.string ⟨#[97]⟩, .string ⟨#[108, 101, 116]⟩, .string ⟨#[35, 97]⟩, .string ⟨#[49]⟩, .string ⟨#[49, 110]⟩, .string ⟨#[39, 97, 39]⟩, .string ⟨#[47, 97, 47]⟩, .string ⟨#[116, 104, 105, 115]⟩, .string ⟨#[110, 101, 119, 46, 116, 97, 114, 103, 101, 116]⟩, .string ⟨#[97, 119, 97, 105, 116]⟩, .string ⟨#[115, 117, 112, 101, 114]⟩, .string ⟨#[97, 32, 98]⟩, .string ⟨#[]⟩, .string ⟨#[117, 110, 100, 101, 102, 105, 110, 101, 100]⟩] 9)
  generalize World.alloc w1 _ = w2 at *
  generalize w1.heap.size = p at *
  have c0 := cell_of_row w2 p 2 _ _ _ hbx
  have hpl := (Array.getElem?_eq_some_iff.1 hbx).1
  have HB2 := Lib.hid hb2
  clear hbx hb1 hb2 HI
  go_upto_region 6 with fail
  clear c0
  have hjj : j < kKinds.length := hj
  have hky := heap_alloc_new w2 (.cells #[.int .i64 1, .int .i64 3, .int .i64 4, .int .i64 5, .int .i64 6, .int .i64 7, .int .i64 2] 3)
  have hb3 := HB2.out.alloc HB2.out.size (.cells #[.int .i64 1, .int .i64 3, .int .i64 4, .int .i64 5, .int .i64 6, .int .i64 7, .int .i64 2] 3)
  have c1 : (w2.alloc (.cells #[.int .i64 1, .int .i64 3, .int .i64 4, .int .i64 5, .int .i64 6, .int .i64 7, .int .i64 2] 3)).cell? ⟨w2.heap.size, j, none⟩ = some (.int .i64 kKinds[j]) := by
    rw [cell_of_row _ w2.heap.size j _ _ _ hky]
    match j, hj with
    | 0, _ => rfl
    | 1, _ => rfl
    | 2, _ => rfl
    | 3, _ => rfl
    | 4, _ => rfl
    | 5, _ => rfl
    | 6, _ => rfl
  have HCK := Lib.hid (tab_any 2 j (by decide) hjj _ (HX.out.bel hb3))
  have HB3 := Lib.hid hb3
  have hJ := HJ.out
  clear hky hb3
  go_wp2_with fail
  refine HCK.out.mono ?_
  rintro e w4 ⟨rfl, hb4⟩
  have HB4 := Lib.hid (bel_next HB3.out hb4)
  clear hb4 HCK c1 hJ hpl HB3 HB2
  have h7 : j = 0 ∨ j = 1 ∨ j = 2 ∨ j = 3 ∨ j = 4 ∨ j = 5 ∨ j = 6 := by omega
  generalize kKinds[j] = kk at *
  clear hjj hj
  rcases h7 with rfl | rfl | rfl | rfl | rfl | rfl | rfl
  · rw [show kFine 2 0 = false from rfl]
    have hJ : (IntKind.u64.wrap kind).tmod 7 = 0 := HJ.out
    go_wp2_with (go_at_call 20; refine (num_any _ _).mono ?_; rintro e w' ⟨rfl, rfl⟩)
    go_ret
    exact ⟨rfl, HB4.out⟩
  · rw [show kFine 2 1 = false from rfl]
    have hJ : (IntKind.u64.wrap kind).tmod 7 = 1 := HJ.out
    go_wp2_with (go_at_call 20; refine (num_any _ _).mono ?_; rintro e w' ⟨rfl, rfl⟩)
    go_ret
    exact ⟨rfl, HB4.out⟩
  · rw [show kFine 2 2 = false from rfl]
    have hJ : (IntKind.u64.wrap kind).tmod 7 = 2 := HJ.out
    go_wp2_with (go_at_call 20; refine (num_any _ _).mono ?_; rintro e w' ⟨rfl, rfl⟩)
    go_ret
    exact ⟨rfl, HB4.out⟩
  · rw [show kFine 2 3 = false from rfl]
    have hJ : (IntKind.u64.wrap kind).tmod 7 = 3 := HJ.out
    go_wp2_with (go_at_call 20; refine (num_any _ _).mono ?_; rintro e w' ⟨rfl, rfl⟩)
    go_ret
    exact ⟨rfl, HB4.out⟩
  · rw [show kFine 2 4 = false from rfl]
    have hJ : (IntKind.u64.wrap kind).tmod 7 = 4 := HJ.out
    go_wp2_with (go_at_call 20; refine (num_any _ _).mono ?_; rintro e w' ⟨rfl, rfl⟩)
    go_ret
    exact ⟨rfl, HB4.out⟩
  · rw [show kFine 2 5 = false from rfl]
    have hJ : (IntKind.u64.wrap kind).tmod 7 = 5 := HJ.out
    go_wp2_with (go_at_call 20; refine (num_any _ _).mono ?_; rintro e w' ⟨rfl, rfl⟩)
    go_ret
    exact ⟨rfl, HB4.out⟩
  · rw [show kFine 2 6 = false from rfl]
    have hJ : (IntKind.u64.wrap kind).tmod 7 = 6 := HJ.out
    go_wp2_with (go_at_call 20; refine (num_any _ _).mono ?_; rintro e w' ⟨rfl, rfl⟩)
    go_ret
    exact ⟨rfl, HB4.out⟩
set_option maxRecDepth 20000 in
set_option maxHeartbeats 4000000 in
theorem kinds_3 (pick kind : Int) (w : World) (hX : Lx w) (hie : (IntKind.u64.wrap pick).tmod 14 = 3) : Calls Tryz.prog 6 #[.int .i64 pick, .int .i64 kind] w fun e w' => e = .returned (.bool true) ∧ Below w.heap.size w w' := by
  obtain ⟨j, hj, hje⟩ := u64_mod kind 7 (by decide)
  have HX := Lib.hid hX
  have HI := Lib.hid hie
  have HJ := Lib.hid (show (IntKind.u64.wrap kind).tmod 7 = (j : Int) from hje)
  clear hX hie hje
  go_enter Tryz.func6, Tryz.ntmps6
  go_upto_region 5 with (go_at_call 13; refine (awake_any _).mono ?_; rintro e w1 ⟨rfl, hb1⟩)
  rw [HI.out, show wrap64 3 = 3 from IntWalk.wrap64_in _ (by decide)]
  have hbx := heap_alloc_new w1 (.cells #[.string ⟨#[97]⟩, .string ⟨#[108, 101, 116]⟩, .string ⟨#[35, 97]⟩, .string ⟨#[49]⟩, .string ⟨#[49, 110]⟩, .string ⟨#[39, 97, 39]⟩, .string ⟨#[47, 97, 47]⟩, .string ⟨#[116, 104, 105, 115]⟩, .string ⟨#[110, 101, 119, 46, 116, 97, 114, 103, 101, 116]⟩, .string ⟨#[97, 119, 97, 105, 116]⟩, .string ⟨#[115, 117, 112, 101, 114]⟩, .string ⟨#[97, 32, 98]⟩, .string ⟨#[]⟩, .string ⟨#[117, 110, 100, 101, 102, 105, 110, 101, 100]⟩] 9)
  have hb2 := hb1.alloc hb1.size (.cells #[.string ⟨#[97]⟩, .string ⟨#[108, 101, 116]⟩, .string ⟨#[35, 97]⟩, .string ⟨#[49]⟩, .string ⟨#[49, 110]⟩, .string ⟨#[39, 97, 39]⟩, .string ⟨#[47, 97, 47]⟩, .string ⟨#[116, 104, 105, 115]⟩, .string ⟨#[110, 101, 119, 46, 116, 97, 114, 103, 101, 116]⟩, .string ⟨#[97, 119, 97, 105, 116]⟩, .string ⟨#[115, 117, 112, 101, 114]⟩, .string ⟨#[97, 32, 98]⟩, .string ⟨#[]⟩, .string ⟨#[117, 110, 100, 101, 102, 105, 110, 101, 100]⟩] 9)
  generalize World.alloc w1 _ = w2 at *
  generalize w1.heap.size = p at *
  have c0 := cell_of_row w2 p 3 _ _ _ hbx
  have hpl := (Array.getElem?_eq_some_iff.1 hbx).1
  have HB2 := Lib.hid hb2
  clear hbx hb1 hb2 HI
  go_upto_region 6 with fail
  clear c0
  have hjj : j < kKinds.length := hj
  have hky := heap_alloc_new w2 (.cells #[.int .i64 1, .int .i64 3, .int .i64 4, .int .i64 5, .int .i64 6, .int .i64 7, .int .i64 2] 3)
  have hb3 := HB2.out.alloc HB2.out.size (.cells #[.int .i64 1, .int .i64 3, .int .i64 4, .int .i64 5, .int .i64 6, .int .i64 7, .int .i64 2] 3)
  have c1 : (w2.alloc (.cells #[.int .i64 1, .int .i64 3, .int .i64 4, .int .i64 5, .int .i64 6, .int .i64 7, .int .i64 2] 3)).cell? ⟨w2.heap.size, j, none⟩ = some (.int .i64 kKinds[j]) := by
    rw [cell_of_row _ w2.heap.size j _ _ _ hky]
    match j, hj with
    | 0, _ => rfl
    | 1, _ => rfl
    | 2, _ => rfl
    | 3, _ => rfl
    | 4, _ => rfl
    | 5, _ => rfl
    | 6, _ => rfl
  have HCK := Lib.hid (tab_any 3 j (by decide) hjj _ (HX.out.bel hb3))
  have HB3 := Lib.hid hb3
  have hJ := HJ.out
  clear hky hb3
  go_wp2_with fail
  refine HCK.out.mono ?_
  rintro e w4 ⟨rfl, hb4⟩
  have HB4 := Lib.hid (bel_next HB3.out hb4)
  clear hb4 HCK c1 hJ hpl HB3 HB2
  have h7 : j = 0 ∨ j = 1 ∨ j = 2 ∨ j = 3 ∨ j = 4 ∨ j = 5 ∨ j = 6 := by omega
  generalize kKinds[j] = kk at *
  clear hjj hj
  rcases h7 with rfl | rfl | rfl | rfl | rfl | rfl | rfl
  · rw [show kFine 3 0 = false from rfl]
    have hJ : (IntKind.u64.wrap kind).tmod 7 = 0 := HJ.out
    go_wp2_with (go_at_call 20; refine (num_any _ _).mono ?_; rintro e w' ⟨rfl, rfl⟩)
    go_ret
    exact ⟨rfl, HB4.out⟩
  · rw [show kFine 3 1 = true from rfl]
    have hJ : (IntKind.u64.wrap kind).tmod 7 = 1 := HJ.out
    go_wp2_with (go_at_call 20; refine (num_any _ _).mono ?_; rintro e w' ⟨rfl, rfl⟩)
    go_ret
    exact ⟨rfl, HB4.out⟩
  · rw [show kFine 3 2 = false from rfl]
    have hJ : (IntKind.u64.wrap kind).tmod 7 = 2 := HJ.out
    go_wp2_with (go_at_call 20; refine (num_any _ _).mono ?_; rintro e w' ⟨rfl, rfl⟩)
    go_ret
    exact ⟨rfl, HB4.out⟩
  · rw [show kFine 3 3 = false from rfl]
    have hJ : (IntKind.u64.wrap kind).tmod 7 = 3 := HJ.out
    go_wp2_with (go_at_call 20; refine (num_any _ _).mono ?_; rintro e w' ⟨rfl, rfl⟩)
    go_ret
    exact ⟨rfl, HB4.out⟩
  · rw [show kFine 3 4 = false from rfl]
    have hJ : (IntKind.u64.wrap kind).tmod 7 = 4 := HJ.out
    go_wp2_with (go_at_call 20; refine (num_any _ _).mono ?_; rintro e w' ⟨rfl, rfl⟩)
    go_ret
    exact ⟨rfl, HB4.out⟩
  · rw [show kFine 3 5 = false from rfl]
    have hJ : (IntKind.u64.wrap kind).tmod 7 = 5 := HJ.out
    go_wp2_with (go_at_call 20; refine (num_any _ _).mono ?_; rintro e w' ⟨rfl, rfl⟩)
    go_ret
    exact ⟨rfl, HB4.out⟩
  · rw [show kFine 3 6 = false from rfl]
    have hJ : (IntKind.u64.wrap kind).tmod 7 = 6 := HJ.out
    go_wp2_with (go_at_call 20; refine (num_any _ _).mono ?_; rintro e w' ⟨rfl, rfl⟩)
    go_ret
    exact ⟨rfl, HB4.out⟩
set_option maxRecDepth 20000 in
set_option maxHeartbeats 4000000 in
theorem kinds_4 (pick kind : Int) (w : World) (hX : Lx w) (hie : (IntKind.u64.wrap pick).tmod 14 = 4) : Calls Tryz.prog 6 #[.int .i64 pick, .int .i64 kind] w fun e w' => e = .returned (.bool true) ∧ Below w.heap.size w w' := by
  obtain ⟨j, hj, hje⟩ := u64_mod kind 7 (by decide)
  have HX := Lib.hid hX
  have HI := Lib.hid hie
  have HJ := Lib.hid (show (IntKind.u64.wrap kind).tmod 7 = (j : Int) from hje)
  clear hX hie hje
  go_enter Tryz.func6, Tryz.ntmps6
  go_upto_region 5 with (go_at_call 13; refine (awake_any _).mono ?_; rintro e w1 ⟨rfl, hb1⟩)
  rw [HI.out, show wrap64 4 = 4 from IntWalk.wrap64_in _ (by decide)]
  have hbx := heap_alloc_new w1 (.cells #[.string ⟨#[97]⟩, .string ⟨#[108, 101, 116]⟩, .string ⟨#[35, 97]⟩, .string ⟨#[49]⟩, .string ⟨#[49, 110]⟩, .string ⟨#[39, 97, 39]⟩, .string ⟨#[47, 97, 47]⟩, .string ⟨#[116, 104, 105, 115]⟩, .string ⟨#[110, 101, 119, 46, 116, 97, 114, 103, 101, 116]⟩, .string ⟨#[97, 119, 97, 105, 116]⟩, .string ⟨#[115, 117, 112, 101, 114]⟩, .string ⟨#[97, 32, 98]⟩, .string ⟨#[]⟩, .string ⟨#[117, 110, 100, 101, 102, 105, 110, 101, 100]⟩] 9)
  have hb2 := hb1.alloc hb1.size (.cells #[.string ⟨#[97]⟩, .string ⟨#[108, 101, 116]⟩, .string ⟨#[35, 97]⟩, .string ⟨#[49]⟩, .string ⟨#[49, 110]⟩, .string ⟨#[39, 97, 39]⟩, .string ⟨#[47, 97, 47]⟩, .string ⟨#[116, 104, 105, 115]⟩, .string ⟨#[110, 101, 119, 46, 116, 97, 114, 103, 101, 116]⟩, .string ⟨#[97, 119, 97, 105, 116]⟩, .string ⟨#[115, 117, 112, 101, 114]⟩, .string ⟨#[97, 32, 98]⟩, .string ⟨#[]⟩, .string ⟨#[117, 110, 100, 101, 102, 105, 110, 101, 100]⟩] 9)
  generalize World.alloc w1 _ = w2 at *
  generalize w1.heap.size = p at *
  have c0 := cell_of_row w2 p 4 _ _ _ hbx
  have hpl := (Array.getElem?_eq_some_iff.1 hbx).1
  have HB2 := Lib.hid hb2
  clear hbx hb1 hb2 HI
  go_upto_region 6 with fail
  clear c0
  have hjj : j < kKinds.length := hj
  have hky := heap_alloc_new w2 (.cells #[.int .i64 1, .int .i64 3, .int .i64 4, .int .i64 5, .int .i64 6, .int .i64 7, .int .i64 2] 3)
  have hb3 := HB2.out.alloc HB2.out.size (.cells #[.int .i64 1, .int .i64 3, .int .i64 4, .int .i64 5, .int .i64 6, .int .i64 7, .int .i64 2] 3)
  have c1 : (w2.alloc (.cells #[.int .i64 1, .int .i64 3, .int .i64 4, .int .i64 5, .int .i64 6, .int .i64 7, .int .i64 2] 3)).cell? ⟨w2.heap.size, j, none⟩ = some (.int .i64 kKinds[j]) := by
    rw [cell_of_row _ w2.heap.size j _ _ _ hky]
    match j, hj with
    | 0, _ => rfl
    | 1, _ => rfl
    | 2, _ => rfl
    | 3, _ => rfl
    | 4, _ => rfl
    | 5, _ => rfl
    | 6, _ => rfl
  have HCK := Lib.hid (tab_any 4 j (by decide) hjj _ (HX.out.bel hb3))
  have HB3 := Lib.hid hb3
  have hJ := HJ.out
  clear hky hb3
  go_wp2_with fail
  refine HCK.out.mono ?_
  rintro e w4 ⟨rfl, hb4⟩
  have HB4 := Lib.hid (bel_next HB3.out hb4)
  clear hb4 HCK c1 hJ hpl HB3 HB2
  have h7 : j = 0 ∨ j = 1 ∨ j = 2 ∨ j = 3 ∨ j = 4 ∨ j = 5 ∨ j = 6 := by omega
  generalize kKinds[j] = kk at *
  clear hjj hj
  rcases h7 with rfl | rfl | rfl | rfl | rfl | rfl | rfl
  · rw [show kFine 4 0 = false from rfl]
    have hJ : (IntKind.u64.wrap kind).tmod 7 = 0 := HJ.out
    go_wp2_with (go_at_call 20; refine (num_any _ _).mono ?_; rintro e w' ⟨rfl, rfl⟩)
    go_ret
    exact ⟨rfl, HB4.out⟩
  · rw [show kFine 4 1 = true from rfl]
    have hJ : (IntKind.u64.wrap kind).tmod 7 = 1 := HJ.out
    go_wp2_with (go_at_call 20; refine (num_any _ _).mono ?_; rintro e w' ⟨rfl, rfl⟩)
    go_ret
    exact ⟨rfl, HB4.out⟩
  · rw [show kFine 4 2 = false from rfl]
    have hJ : (IntKind.u64.wrap kind).tmod 7 = 2 := HJ.out
    go_wp2_with (go_at_call 20; refine (num_any _ _).mono ?_; rintro e w' ⟨rfl, rfl⟩)
    go_ret
    exact ⟨rfl, HB4.out⟩
  · rw [show kFine 4 3 = false from rfl]
    have hJ : (IntKind.u64.wrap kind).tmod 7 = 3 := HJ.out
    go_wp2_with (go_at_call 20; refine (num_any _ _).mono ?_; rintro e w' ⟨rfl, rfl⟩)
    go_ret
    exact ⟨rfl, HB4.out⟩
  · rw [show kFine 4 4 = false from rfl]
    have hJ : (IntKind.u64.wrap kind).tmod 7 = 4 := HJ.out
    go_wp2_with (go_at_call 20; refine (num_any _ _).mono ?_; rintro e w' ⟨rfl, rfl⟩)
    go_ret
    exact ⟨rfl, HB4.out⟩
  · rw [show kFine 4 5 = false from rfl]
    have hJ : (IntKind.u64.wrap kind).tmod 7 = 5 := HJ.out
    go_wp2_with (go_at_call 20; refine (num_any _ _).mono ?_; rintro e w' ⟨rfl, rfl⟩)
    go_ret
    exact ⟨rfl, HB4.out⟩
  · rw [show kFine 4 6 = false from rfl]
    have hJ : (IntKind.u64.wrap kind).tmod 7 = 6 := HJ.out
    go_wp2_with (go_at_call 20; refine (num_any _ _).mono ?_; rintro e w' ⟨rfl, rfl⟩)
    go_ret
    exact ⟨rfl, HB4.out⟩
set_option maxRecDepth 20000 in
set_option maxHeartbeats 4000000 in
theorem kinds_5 (pick kind : Int) (w : World) (hX : Lx w) (hie : (IntKind.u64.wrap pick).tmod 14 = 5) : Calls Tryz.prog 6 #[.int .i64 pick, .int .i64 kind] w fun e w' => e = .returned (.bool true) ∧ Below w.heap.size w w' := by
  obtain ⟨j, hj, hje⟩ := u64_mod kind 7 (by decide)
  have HX := Lib.hid hX
  have HI := Lib.hid hie
  have HJ := Lib.hid (show (IntKind.u64.wrap kind).tmod 7 = (j : Int) from hje)
  clear hX hie hje
  go_enter Tryz.func6, Tryz.ntmps6
  go_upto_region 5 with (go_at_call 13; refine (awake_any _).mono ?_; rintro e w1 ⟨rfl, hb1⟩)
  rw [HI.out, show wrap64 5 = 5 from IntWalk.wrap64_in _ (by decide)]
  have hbx := heap_alloc_new w1 (.cells #[.string ⟨#[97]⟩, .string ⟨#[108, 101, 116]⟩, .string ⟨#[35, 97]⟩, .string ⟨#[49]⟩, .string ⟨#[49, 110]⟩, .string ⟨#[39, 97, 39]⟩, .string ⟨#[47, 97, 47]⟩, .string ⟨#[116, 104, 105, 115]⟩, .string ⟨#[110, 101, 119, 46, 116, 97, 114, 103, 101, 116]⟩, .string ⟨#[97, 119, 97, 105, 116]⟩, .string ⟨#[115, 117, 112, 101, 114]⟩, .string ⟨#[97, 32, 98]⟩, .string ⟨#[]⟩, .string ⟨#[117, 110, 100, 101, 102, 105, 110, 101, 100]⟩] 9)
  have hb2 := hb1.alloc hb1.size (.cells #[.string ⟨#[97]⟩, .string ⟨#[108, 101, 116]⟩, .string ⟨#[35, 97]⟩, .string ⟨#[49]⟩, .string ⟨#[49, 110]⟩, .string ⟨#[39, 97, 39]⟩, .string ⟨#[47, 97, 47]⟩, .string ⟨#[116, 104, 105, 115]⟩, .string ⟨#[110, 101, 119, 46, 116, 97, 114, 103, 101, 116]⟩, .string ⟨#[97, 119, 97, 105, 116]⟩, .string ⟨#[115, 117, 112, 101, 114]⟩, .string ⟨#[97, 32, 98]⟩, .string ⟨#[]⟩, .string ⟨#[117, 110, 100, 101, 102, 105, 110, 101, 100]⟩] 9)
  generalize World.alloc w1 _ = w2 at *
  generalize w1.heap.size = p at *
  have c0 := cell_of_row w2 p 5 _ _ _ hbx
  have hpl := (Array.getElem?_eq_some_iff.1 hbx).1
  have HB2 := Lib.hid hb2
  clear hbx hb1 hb2 HI
  go_upto_region 6 with fail
  clear c0
  have hjj : j < kKinds.length := hj
  have hky := heap_alloc_new w2 (.cells #[.int .i64 1, .int .i64 3, .int .i64 4, .int .i64 5, .int .i64 6, .int .i64 7, .int .i64 2] 3)
  have hb3 := HB2.out.alloc HB2.out.size (.cells #[.int .i64 1, .int .i64 3, .int .i64 4, .int .i64 5, .int .i64 6, .int .i64 7, .int .i64 2] 3)
  have c1 : (w2.alloc (.cells #[.int .i64 1, .int .i64 3, .int .i64 4, .int .i64 5, .int .i64 6, .int .i64 7, .int .i64 2] 3)).cell? ⟨w2.heap.size, j, none⟩ = some (.int .i64 kKinds[j]) := by
    rw [cell_of_row _ w2.heap.size j _ _ _ hky]
    match j, hj with
    | 0, _ => rfl
    | 1, _ => rfl
    | 2, _ => rfl
    | 3, _ => rfl
    | 4, _ => rfl
    | 5, _ => rfl
    | 6, _ => rfl
  have HCK := Lib.hid (tab_any 5 j (by decide) hjj _ (HX.out.bel hb3))
  have HB3 := Lib.hid hb3
  have hJ := HJ.out
  clear hky hb3
  go_wp2_with fail
  refine HCK.out.mono ?_
  rintro e w4 ⟨rfl, hb4⟩
  have HB4 := Lib.hid (bel_next HB3.out hb4)
  clear hb4 HCK c1 hJ hpl HB3 HB2
  have h7 : j = 0 ∨ j = 1 ∨ j = 2 ∨ j = 3 ∨ j = 4 ∨ j = 5 ∨ j = 6 := by omega
  generalize kKinds[j] = kk at *
  clear hjj hj
  rcases h7 with rfl | rfl | rfl | rfl | rfl | rfl | rfl
  · rw [show kFine 5 0 = false from rfl]
    have hJ : (IntKind.u64.wrap kind).tmod 7 = 0 := HJ.out
    go_wp2_with (go_at_call 20; refine (num_any _ _).mono ?_; rintro e w' ⟨rfl, rfl⟩)
    go_ret
    exact ⟨rfl, HB4.out⟩
  · rw [show kFine 5 1 = false from rfl]
    have hJ : (IntKind.u64.wrap kind).tmod 7 = 1 := HJ.out
    go_wp2_with (go_at_call 20; refine (num_any _ _).mono ?_; rintro e w' ⟨rfl, rfl⟩)
    go_ret
    exact ⟨rfl, HB4.out⟩
  · rw [show kFine 5 2 = true from rfl]
    have hJ : (IntKind.u64.wrap kind).tmod 7 = 2 := HJ.out
    go_wp2_with (go_at_call 20; refine (num_any _ _).mono ?_; rintro e w' ⟨rfl, rfl⟩)
    go_ret
    exact ⟨rfl, HB4.out⟩
  · rw [show kFine 5 3 = false from rfl]
    have hJ : (IntKind.u64.wrap kind).tmod 7 = 3 := HJ.out
    go_wp2_with (go_at_call 20; refine (num_any _ _).mono ?_; rintro e w' ⟨rfl, rfl⟩)
    go_ret
    exact ⟨rfl, HB4.out⟩
  · rw [show kFine 5 4 = false from rfl]
    have hJ : (IntKind.u64.wrap kind).tmod 7 = 4 := HJ.out
    go_wp2_with (go_at_call 20; refine (num_any _ _).mono ?_; rintro e w' ⟨rfl, rfl⟩)
    go_ret
    exact ⟨rfl, HB4.out⟩
  · rw [show kFine 5 5 = false from rfl]
    have hJ : (IntKind.u64.wrap kind).tmod 7 = 5 := HJ.out
    go_wp2_with (go_at_call 20; refine (num_any _ _).mono ?_; rintro e w' ⟨rfl, rfl⟩)
    go_ret
    exact ⟨rfl, HB4.out⟩
  · rw [show kFine 5 6 = false from rfl]
    have hJ : (IntKind.u64.wrap kind).tmod 7 = 6 := HJ.out
    go_wp2_with (go_at_call 20; refine (num_any _ _).mono ?_; rintro e w' ⟨rfl, rfl⟩)
    go_ret
    exact ⟨rfl, HB4.out⟩
set_option maxRecDepth 20000 in
set_option maxHeartbeats 4000000 in
theorem kinds_6 (pick kind : Int) (w : World) (hX : Lx w) (hie : (IntKind.u64.wrap pick).tmod 14 = 6) : Calls Tryz.prog 6 #[.int .i64 pick, .int .i64 kind] w fun e w' => e = .returned (.bool true) ∧ Below w.heap.size w w' := by
  obtain ⟨j, hj, hje⟩ := u64_mod kind 7 (by decide)
  have HX := Lib.hid hX
  have HI := Lib.hid hie
  have HJ := Lib.hid (show (IntKind.u64.wrap kind).tmod 7 = (j : Int) from hje)
  clear hX hie hje
  go_enter Tryz.func6, Tryz.ntmps6
  go_upto_region 5 with (go_at_call 13; refine (awake_any _).mono ?_; rintro e w1 ⟨rfl, hb1⟩)
  rw [HI.out, show wrap64 6 = 6 from IntWalk.wrap64_in _ (by decide)]
  have hbx := heap_alloc_new w1 (.cells #[.string ⟨#[97]⟩, .string ⟨#[108, 101, 116]⟩, .string ⟨#[35, 97]⟩, .string ⟨#[49]⟩, .string ⟨#[49, 110]⟩, .string ⟨#[39, 97, 39]⟩, .string ⟨#[47, 97, 47]⟩, .string ⟨#[116, 104, 105, 115]⟩, .string ⟨#[110, 101, 119, 46, 116, 97, 114, 103, 101, 116]⟩, .string ⟨#[97, 119, 97, 105, 116]⟩, .string ⟨#[115, 117, 112, 101, 114]⟩, .string ⟨#[97, 32, 98]⟩, .string ⟨#[]⟩, .string ⟨#[117, 110, 100, 101, 102, 105, 110, 101, 100]⟩] 9)
  have hb2 := hb1.alloc hb1.size (.cells #[.string ⟨#[97]⟩, .string ⟨#[108, 101, 116]⟩, .string ⟨#[35, 97]⟩, .string ⟨#[49]⟩, .string ⟨#[49, 110]⟩, .string ⟨#[39, 97, 39]⟩, .string ⟨#[47, 97, 47]⟩, .string ⟨#[116, 104, 105, 115]⟩, .string ⟨#[110, 101, 119, 46, 116, 97, 114, 103, 101, 116]⟩, .string ⟨#[97, 119, 97, 105, 116]⟩, .string ⟨#[115, 117, 112, 101, 114]⟩, .string ⟨#[97, 32, 98]⟩, .string ⟨#[]⟩, .string ⟨#[117, 110, 100, 101, 102, 105, 110, 101, 100]⟩] 9)
  generalize World.alloc w1 _ = w2 at *
  generalize w1.heap.size = p at *
  have c0 := cell_of_row w2 p 6 _ _ _ hbx
  have hpl := (Array.getElem?_eq_some_iff.1 hbx).1
  have HB2 := Lib.hid hb2
  clear hbx hb1 hb2 HI
  go_upto_region 6 with fail
  clear c0
  have hjj : j < kKinds.length := hj
  have hky := heap_alloc_new w2 (.cells #[.int .i64 1, .int .i64 3, .int .i64 4, .int .i64 5, .int .i64 6, .int .i64 7, .int .i64 2] 3)
  have hb3 := HB2.out.alloc HB2.out.size (.cells #[.int .i64 1, .int .i64 3, .int .i64 4, .int .i64 5, .int .i64 6, .int .i64 7, .int .i64 2] 3)
  have c1 : (w2.alloc (.cells #[.int .i64 1, .int .i64 3, .int .i64 4, .int .i64 5, .int .i64 6, .int .i64 7, .int .i64 2] 3)).cell? ⟨w2.heap.size, j, none⟩ = some (.int .i64 kKinds[j]) := by
    rw [cell_of_row _ w2.heap.size j _ _ _ hky]
    match j, hj with
    | 0, _ => rfl
    | 1, _ => rfl
    | 2, _ => rfl
    | 3, _ => rfl
    | 4, _ => rfl
    | 5, _ => rfl
    | 6, _ => rfl
  have HCK := Lib.hid (tab_any 6 j (by decide) hjj _ (HX.out.bel hb3))
  have HB3 := Lib.hid hb3
  have hJ := HJ.out
  clear hky hb3
  go_wp2_with fail
  refine HCK.out.mono ?_
  rintro e w4 ⟨rfl, hb4⟩
  have HB4 := Lib.hid (bel_next HB3.out hb4)
  clear hb4 HCK c1 hJ hpl HB3 HB2
  have h7 : j = 0 ∨ j = 1 ∨ j = 2 ∨ j = 3 ∨ j = 4 ∨ j = 5 ∨ j = 6 := by omega
  generalize kKinds[j] = kk at *
  clear hjj hj
  rcases h7 with rfl | rfl | rfl | rfl | rfl | rfl | rfl
  · rw [show kFine 6 0 = false from rfl]
    have hJ : (IntKind.u64.wrap kind).tmod 7 = 0 := HJ.out
    go_wp2_with (go_at_call 20; refine (num_any _ _).mono ?_; rintro e w' ⟨rfl, rfl⟩)
    go_ret
    exact ⟨rfl, HB4.out⟩
  · rw [show kFine 6 1 = false from rfl]
    have hJ : (IntKind.u64.wrap kind).tmod 7 = 1 := HJ.out
    go_wp2_with (go_at_call 20; refine (num_any _ _).mono ?_; rintro e w' ⟨rfl, rfl⟩)
    go_ret
    exact ⟨rfl, HB4.out⟩
  · rw [show kFine 6 2 = false from rfl]
    have hJ : (IntKind.u64.wrap kind).tmod 7 = 2 := HJ.out
    go_wp2_with (go_at_call 20; refine (num_any _ _).mono ?_; rintro e w' ⟨rfl, rfl⟩)
    go_ret
    exact ⟨rfl, HB4.out⟩
  · rw [show kFine 6 3 = true from rfl]
    have hJ : (IntKind.u64.wrap kind).tmod 7 = 3 := HJ.out
    go_wp2_with (go_at_call 20; refine (num_any _ _).mono ?_; rintro e w' ⟨rfl, rfl⟩)
    go_ret
    exact ⟨rfl, HB4.out⟩
  · rw [show kFine 6 4 = false from rfl]
    have hJ : (IntKind.u64.wrap kind).tmod 7 = 4 := HJ.out
    go_wp2_with (go_at_call 20; refine (num_any _ _).mono ?_; rintro e w' ⟨rfl, rfl⟩)
    go_ret
    exact ⟨rfl, HB4.out⟩
  · rw [show kFine 6 5 = false from rfl]
    have hJ : (IntKind.u64.wrap kind).tmod 7 = 5 := HJ.out
    go_wp2_with (go_at_call 20; refine (num_any _ _).mono ?_; rintro e w' ⟨rfl, rfl⟩)
    go_ret
    exact ⟨rfl, HB4.out⟩
  · rw [show kFine 6 6 = false from rfl]
    have hJ : (IntKind.u64.wrap kind).tmod 7 = 6 := HJ.out
    go_wp2_with (go_at_call 20; refine (num_any _ _).mono ?_; rintro e w' ⟨rfl, rfl⟩)
    go_ret
    exact ⟨rfl, HB4.out⟩
set_option maxRecDepth 20000 in
set_option maxHeartbeats 4000000 in
theorem kinds_7 (pick kind : Int) (w : World) (hX : Lx w) (hie : (IntKind.u64.wrap pick).tmod 14 = 7) : Calls Tryz.prog 6 #[.int .i64 pick, .int .i64 kind] w fun e w' => e = .returned (.bool true) ∧ Below w.heap.size w w' := by
  obtain ⟨j, hj, hje⟩ := u64_mod kind 7 (by decide)
  have HX := Lib.hid hX
  have HI := Lib.hid hie
  have HJ := Lib.hid (show (IntKind.u64.wrap kind).tmod 7 = (j : Int) from hje)
  clear hX hie hje
  go_enter Tryz.func6, Tryz.ntmps6
  go_upto_region 5 with (go_at_call 13; refine (awake_any _).mono ?_; rintro e w1 ⟨rfl, hb1⟩)
  rw [HI.out, show wrap64 7 = 7 from IntWalk.wrap64_in _ (by decide)]
  have hbx := heap_alloc_new w1 (.cells #[.string ⟨#[97]⟩, .string ⟨#[108, 101, 116]⟩, .string ⟨#[35, 97]⟩, .string ⟨#[49]⟩, .string ⟨#[49, 110]⟩, .string ⟨#[39, 97, 39]⟩, .string ⟨#[47, 97, 47]⟩, .string ⟨#[116, 104, 105, 115]⟩, .string ⟨#[110, 101, 119, 46, 116, 97, 114, 103, 101, 116]⟩, .string ⟨#[97, 119, 97, 105, 116]⟩, .string ⟨#[115, 117, 112, 101, 114]⟩, .string ⟨#[97, 32, 98]⟩, .string ⟨#[]⟩, .string ⟨#[117, 110, 100, 101, 102, 105, 110, 101, 100]⟩] 9)
  have hb2 := hb1.alloc hb1.size (.cells #[.string ⟨#[97]⟩, .string ⟨#[108, 101, 116]⟩, .string ⟨#[35, 97]⟩, .string ⟨#[49]⟩, .string ⟨#[49, 110]⟩, .string ⟨#[39, 97, 39]⟩, .string ⟨#[47, 97, 47]⟩, .string ⟨#[116, 104, 105, 115]⟩, .string ⟨#[110, 101, 119, 46, 116, 97, 114, 103, 101, 116]⟩, .string ⟨#[97, 119, 97, 105, 116]⟩, .string ⟨#[115, 117, 112, 101, 114]⟩, .string ⟨#[97, 32, 98]⟩, .string ⟨#[]⟩, .string ⟨#[117, 110, 100, 101, 102, 105, 110, 101, 100]⟩] 9)
  generalize World.alloc w1 _ = w2 at *
  generalize w1.heap.size = p at *
  have c0 := cell_of_row w2 p 7 _ _ _ hbx
  have hpl := (Array.getElem?_eq_some_iff.1 hbx).1
  have HB2 := Lib.hid hb2
  clear hbx hb1 hb2 HI
  go_upto_region 6 with fail
  clear c0
  have hjj : j < kKinds.length := hj
  have hky := heap_alloc_new w2 (.cells #[.int .i64 1, .int .i64 3, .int .i64 4, .int .i64 5, .int .i64 6, .int .i64 7, .int .i64 2] 3)
  have hb3 := HB2.out.alloc HB2.out.size (.cells #[.int .i64 1, .int .i64 3, .int .i64 4, .int .i64 5, .int .i64 6, .int .i64 7, .int .i64 2] 3)
  have c1 : (w2.alloc (.cells #[.int .i64 1, .int .i64 3, .int .i64 4, .int .i64 5, .int .i64 6, .int .i64 7, .int .i64 2] 3)).cell? ⟨w2.heap.size, j, none⟩ = some (.int .i64 kKinds[j]) := by
    rw [cell_of_row _ w2.heap.size j _ _ _ hky]
    match j, hj with
    | 0, _ => rfl
    | 1, _ => rfl
    | 2, _ => rfl
    | 3, _ => rfl
    | 4, _ => rfl
    | 5, _ => rfl
    | 6, _ => rfl
  have HCK := Lib.hid (tab_any 7 j (by decide) hjj _ (HX.out.bel hb3))
  have HB3 := Lib.hid hb3
  have hJ := HJ.out
  clear hky hb3
  go_wp2_with fail
  refine HCK.out.mono ?_
  rintro e w4 ⟨rfl, hb4⟩
  have HB4 := Lib.hid (bel_next HB3.out hb4)
  clear hb4 HCK c1 hJ hpl HB3 HB2
  have h7 : j = 0 ∨ j = 1 ∨ j = 2 ∨ j = 3 ∨ j = 4 ∨ j = 5 ∨ j = 6 := by omega
  generalize kKinds[j] = kk at *
  clear hjj hj
  rcases h7 with rfl | rfl | rfl | rfl | rfl | rfl | rfl
  · rw [show kFine 7 0 = false from rfl]
    have hJ : (IntKind.u64.wrap kind).tmod 7 = 0 := HJ.out
    go_wp2_with (go_at_call 20; refine (num_any _ _).mono ?_; rintro e w' ⟨rfl, rfl⟩)
    go_ret
    exact ⟨rfl, HB4.out⟩
  · rw [show kFine 7 1 = false from rfl]
    have hJ : (IntKind.u64.wrap kind).tmod 7 = 1 := HJ.out
    go_wp2_with (go_at_call 20; refine (num_any _ _).mono ?_; rintro e w' ⟨rfl, rfl⟩)
    go_ret
    exact ⟨rfl, HB4.out⟩
  · rw [show kFine 7 2 = false from rfl]
    have hJ : (IntKind.u64.wrap kind).tmod 7 = 2 := HJ.out
    go_wp2_with (go_at_call 20; refine (num_any _ _).mono ?_; rintro e w' ⟨rfl, rfl⟩)
    go_ret
    exact ⟨rfl, HB4.out⟩
  · rw [show kFine 7 3 = false from rfl]
    have hJ : (IntKind.u64.wrap kind).tmod 7 = 3 := HJ.out
    go_wp2_with (go_at_call 20; refine (num_any _ _).mono ?_; rintro e w' ⟨rfl, rfl⟩)
    go_ret
    exact ⟨rfl, HB4.out⟩
  · rw [show kFine 7 4 = true from rfl]
    have hJ : (IntKind.u64.wrap kind).tmod 7 = 4 := HJ.out
    go_wp2_with (go_at_call 20; refine (num_any _ _).mono ?_; rintro e w' ⟨rfl, rfl⟩)
    go_ret
    exact ⟨rfl, HB4.out⟩
  · rw [show kFine 7 5 = false from rfl]
    have hJ : (IntKind.u64.wrap kind).tmod 7 = 5 := HJ.out
    go_wp2_with (go_at_call 20; refine (num_any _ _).mono ?_; rintro e w' ⟨rfl, rfl⟩)
    go_ret
    exact ⟨rfl, HB4.out⟩
  · rw [show kFine 7 6 = false from rfl]
    have hJ : (IntKind.u64.wrap kind).tmod 7 = 6 := HJ.out
    go_wp2_with (go_at_call 20; refine (num_any _ _).mono ?_; rintro e w' ⟨rfl, rfl⟩)
    go_ret
    exact ⟨rfl, HB4.out⟩
set_option maxRecDepth 20000 in
set_option maxHeartbeats 4000000 in
theorem kinds_8 (pick kind : Int) (w : World) (hX : Lx w) (hie : (IntKind.u64.wrap pick).tmod 14 = 8) : Calls Tryz.prog 6 #[.int .i64 pick, .int .i64 kind] w fun e w' => e = .returned (.bool true) ∧ Below w.heap.size w w' := by
  obtain ⟨j, hj, hje⟩ := u64_mod kind 7 (by decide)
  have HX := Lib.hid hX
  have HI := Lib.hid hie
  have HJ := Lib.hid (show (IntKind.u64.wrap kind).tmod 7 = (j : Int) from hje)
  clear hX hie hje
  go_enter Tryz.func6, Tryz.ntmps6
  go_upto_region 5 with (go_at_call 13; refine (awake_any _).mono ?_; rintro e w1 ⟨rfl, hb1⟩)
  rw [HI.out, show wrap64 8 = 8 from IntWalk.wrap64_in _ (by decide)]
  have hbx := heap_alloc_new w1 (.cells #[.string ⟨#[97]⟩, .string ⟨#[108, 101, 116]⟩, .string ⟨#[35, 97]⟩, .string ⟨#[49]⟩, .string ⟨#[49, 110]⟩, .string ⟨#[39, 97, 39]⟩, .string ⟨#[47, 97, 47]⟩, .string ⟨#[116, 104, 105, 115]⟩, .string ⟨#[110, 101, 119, 46, 116, 97, 114, 103, 101, 116]⟩, .string ⟨#[97, 119, 97, 105, 116]⟩, .string ⟨#[115, 117, 112, 101, 114]⟩, .string ⟨#[97, 32, 98]⟩, .string ⟨#[]⟩, .string ⟨#[117, 110, 100, 101, 102, 105, 110, 101, 100]⟩] 9)
  have hb2 := hb1.alloc hb1.size (.cells #[.string ⟨#[97]⟩, .string ⟨#[108, 101, 116]⟩, .string ⟨#[35, 97]⟩, .string ⟨#[49]⟩, .string ⟨#[49, 110]⟩, .string ⟨#[39, 97, 39]⟩, .string ⟨#[47, 97, 47]⟩, .string ⟨#[116, 104, 105, 115]⟩, .string ⟨#[110, 101, 119, 46, 116, 97, 114, 103, 101, 116]⟩, .string ⟨#[97, 119, 97, 105, 116]⟩, .string ⟨#[115, 117, 112, 101, 114]⟩, .string ⟨#[97, 32, 98]⟩, .string ⟨#[]⟩, .string ⟨#[117, 110, 100, 101, 102, 105, 110, 101, 100]⟩] 9)
  generalize World.alloc w1 _ = w2 at *
  generalize w1.heap.size = p at *
  have c0 := cell_of_row w2 p 8 _ _ _ hbx
  have hpl := (Array.getElem?_eq_some_iff.1 hbx).1
  have HB2 := Lib.hid hb2
  clear hbx hb1 hb2 HI
  go_upto_region 6 with fail
  clear c0
  have hjj : j < kKinds.length := hj
  have hky := heap_alloc_new w2 (.cells #[.int .i64 1, .int .i64 3, .int .i64 4, .int .i64 5, .int .i64 6, .int .i64 7, .int .i64 2] 3)
  have hb3 := HB2.out.alloc HB2.out.size (.cells #[.int .i64 1, .int .i64 3, .int .i64 4, .int .i64 5, .int .i64 6, .int .i64 7, .int .i64 2] 3)
  have c1 : (w2.alloc (.cells #[.int .i64 1, .int .i64 3, .int .i64 4, .int .i64 5, .int .i64 6, .int .i64 7, .int .i64 2] 3)).cell? ⟨w2.heap.size, j, none⟩ = some (.int .i64 kKinds[j]) := by
    rw [cell_of_row _ w2.heap.size j _ _ _ hky]
    match j, hj with
    | 0, _ => rfl
    | 1, _ => rfl
    | 2, _ => rfl
    | 3, _ => rfl
    | 4, _ => rfl
    | 5, _ => rfl
    | 6, _ => rfl
  have HCK := Lib.hid (tab_any 8 j (by decide) hjj _ (HX.out.bel hb3))
  have HB3 := Lib.hid hb3
  have hJ := HJ.out
  clear hky hb3
  go_wp2_with fail
  refine HCK.out.mono ?_
  rintro e w4 ⟨rfl, hb4⟩
  have HB4 := Lib.hid (bel_next HB3.out hb4)
  clear hb4 HCK c1 hJ hpl HB3 HB2
  have h7 : j = 0 ∨ j = 1 ∨ j = 2 ∨ j = 3 ∨ j = 4 ∨ j = 5 ∨ j = 6 := by omega
  generalize kKinds[j] = kk at *
  clear hjj hj
  rcases h7 with rfl | rfl | rfl | rfl | rfl | rfl | rfl
  · rw [show kFine 8 0 = false from rfl]
    have hJ : (IntKind.u64.wrap kind).tmod 7 = 0 := HJ.out
    go_wp2_with (go_at_call 20; refine (num_any _ _).mono ?_; rintro e w' ⟨rfl, rfl⟩)
    go_ret
    exact ⟨rfl, HB4.out⟩
  · rw [show kFine 8 1 = false from rfl]
    have hJ : (IntKind.u64.wrap kind).tmod 7 = 1 := HJ.out
    go_wp2_with (go_at_call 20; refine (num_any _ _).mono ?_; rintro e w' ⟨rfl, rfl⟩)
    go_ret
    exact ⟨rfl, HB4.out⟩
  · rw [show kFine 8 2 = false from rfl]
    have hJ : (IntKind.u64.wrap kind).tmod 7 = 2 := HJ.out
    go_wp2_with (go_at_call 20; refine (num_any _ _).mono ?_; rintro e w' ⟨rfl, rfl⟩)
    go_ret
    exact ⟨rfl, HB4.out⟩
  · rw [show kFine 8 3 = false from rfl]
    have hJ : (IntKind.u64.wrap kind).tmod 7 = 3 := HJ.out
    go_wp2_with (go_at_call 20; refine (num_any _ _).mono ?_; rintro e w' ⟨rfl, rfl⟩)
    go_ret
    exact ⟨rfl, HB4.out⟩
  · rw [show kFine 8 4 = false from rfl]
    have hJ : (IntKind.u64.wrap kind).tmod 7 = 4 := HJ.out
    go_wp2_with (go_at_call 20; refine (num_any _ _).mono ?_; rintro e w' ⟨rfl, rfl⟩)
    go_ret
    exact ⟨rfl, HB4.out⟩
  · rw [show kFine 8 5 = true from rfl]
    have hJ : (IntKind.u64.wrap kind).tmod 7 = 5 := HJ.out
    go_wp2_with (go_at_call 20; refine (num_any _ _).mono ?_; rintro e w' ⟨rfl, rfl⟩)
    go_ret
    exact ⟨rfl, HB4.out⟩
  · rw [show kFine 8 6 = false from rfl]
    have hJ : (IntKind.u64.wrap kind).tmod 7 = 6 := HJ.out
    go_wp2_with (go_at_call 20; refine (num_any _ _).mono ?_; rintro e w' ⟨rfl, rfl⟩)
    go_ret
    exact ⟨rfl, HB4.out⟩
set_option maxRecDepth 20000 in
set_option maxHeartbeats 4000000 in
theorem kinds_9 (pick kind : Int) (w : World) (hX : Lx w) (hie : (IntKind.u64.wrap pick).tmod 14 = 9) : Calls Tryz.prog 6 #[.int .i64 pick, .int .i64 kind] w fun e w' => e = .returned (.bool true) ∧ Below w.heap.size w w' := by
  obtain ⟨j, hj, hje⟩ := u64_mod kind 7 (by decide)
  have HX := Lib.hid hX
  have HI := Lib.hid hie
  have HJ := Lib.hid (show (IntKind.u64.wrap kind).tmod 7 = (j : Int) from hje)
  clear hX hie hje
  go_enter Tryz.func6, Tryz.ntmps6
  go_upto_region 5 with (go_at_call 13; refine (awake_any _).mono ?_; rintro e w1 ⟨rfl, hb1⟩)
  rw [HI.out, show wrap64 9 = 9 from IntWalk.wrap64_in _ (by decide)]
  have hbx := heap_alloc_new w1 (.cells #[.string ⟨#[97]⟩, .string ⟨#[108, 101, 116]⟩, .string ⟨#[35, 97]⟩, .string ⟨#[49]⟩, .string ⟨#[49, 110]⟩, .string ⟨#[39, 97, 39]⟩, .string ⟨#[47, 97, 47]⟩, .string ⟨#[116, 104, 105, 115]⟩, .string ⟨#[110, 101, 119, 46, 116, 97, 114, 103, 101, 116]⟩, .string ⟨#[97, 119, 97, 105, 116]⟩, .string ⟨#[115, 117, 112, 101, 114]⟩, .string ⟨#[97, 32, 98]⟩, .string ⟨#[]⟩, .string ⟨#[117, 110, 100, 101, 102, 105, 110, 101, 100]⟩] 9)
  have hb2 := hb1.alloc hb1.size (.cells #[.string ⟨#[97]⟩, .string ⟨#[108, 101, 116]⟩, .string ⟨#[35, 97]⟩, .string ⟨#[49]⟩, .string ⟨#[49, 110]⟩, .string ⟨#[39, 97, 39]⟩, .string ⟨#[47, 97, 47]⟩, .string ⟨#[116, 104, 105, 115]⟩, .string ⟨#[110, 101, 119, 46, 116, 97, 114, 103, 101, 116]⟩, .string ⟨#[97, 119, 97, 105, 116]⟩, .string ⟨#[115, 117, 112, 101, 114]⟩, .string ⟨#[97, 32, 98]⟩, .string ⟨#[]⟩, .string ⟨#[117, 110, 100, 101, 102, 105, 110, 101, 100]⟩] 9)
  generalize World.alloc w1 _ = w2 at *
  generalize w1.heap.size = p at *
  have c0 := cell_of_row w2 p 9 _ _ _ hbx
  have hpl := (Array.getElem?_eq_some_iff.1 hbx).1
  have HB2 := Lib.hid hb2
  clear hbx hb1 hb2 HI
  go_upto_region 6 with fail
  clear c0
  have hjj : j < kKinds.length := hj
  have hky := heap_alloc_new w2 (.cells #[.int .i64 1, .int .i64 3, .int .i64 4, .int .i64 5, .int .i64 6, .int .i64 7, .int .i64 2] 3)
  have hb3 := HB2.out.alloc HB2.out.size (.cells #[.int .i64 1, .int .i64 3, .int .i64 4, .int .i64 5, .int .i64 6, .int .i64 7, .int .i64 2] 3)
  have c1 : (w2.alloc (.cells #[.int .i64 1, .int .i64 3, .int .i64 4, .int .i64 5, .int .i64 6, .int .i64 7, .int .i64 2] 3)).cell? ⟨w2.heap.size, j, none⟩ = some (.int .i64 kKinds[j]) := by
    rw [cell_of_row _ w2.heap.size j _ _ _ hky]
    match j, hj with
    | 0, _ => rfl
    | 1, _ => rfl
    | 2, _ => rfl
    | 3, _ => rfl
    | 4, _ => rfl
    | 5, _ => rfl
    | 6, _ => rfl
  have HCK := Lib.hid (tab_any 9 j (by decide) hjj _ (HX.out.bel hb3))
  have HB3 := Lib.hid hb3
  have hJ := HJ.out
  clear hky hb3
  go_wp2_with fail
  refine HCK.out.mono ?_
  rintro e w4 ⟨rfl, hb4⟩
  have HB4 := Lib.hid (bel_next HB3.out hb4)
  clear hb4 HCK c1 hJ hpl HB3 HB2
  have h7 : j = 0 ∨ j = 1 ∨ j = 2 ∨ j = 3 ∨ j = 4 ∨ j = 5 ∨ j = 6 := by omega
  generalize kKinds[j] = kk at *
  clear hjj hj
  rcases h7 with rfl | rfl | rfl | rfl | rfl | rfl | rfl
  · rw [show kFine 9 0 = true from rfl]
    have hJ : (IntKind.u64.wrap kind).tmod 7 = 0 := HJ.out
    go_wp2_with (go_at_call 20; refine (num_any _ _).mono ?_; rintro e w' ⟨rfl, rfl⟩)
    go_ret
    exact ⟨rfl, HB4.out⟩
  · rw [show kFine 9 1 = false from rfl]
    have hJ : (IntKind.u64.wrap kind).tmod 7 = 1 := HJ.out
    go_wp2_with (go_at_call 20; refine (num_any _ _).mono ?_; rintro e w' ⟨rfl, rfl⟩)
    go_ret
    exact ⟨rfl, HB4.out⟩
  · rw [show kFine 9 2 = false from rfl]
    have hJ : (IntKind.u64.wrap kind).tmod 7 = 2 := HJ.out
    go_wp2_with (go_at_call 20; refine (num_any _ _).mono ?_; rintro e w' ⟨rfl, rfl⟩)
    go_ret
    exact ⟨rfl, HB4.out⟩
  · rw [show kFine 9 3 = false from rfl]
    have hJ : (IntKind.u64.wrap kind).tmod 7 = 3 := HJ.out
    go_wp2_with (go_at_call 20; refine (num_any _ _).mono ?_; rintro e w' ⟨rfl, rfl⟩)
    go_ret
    exact ⟨rfl, HB4.out⟩
  · rw [show kFine 9 4 = false from rfl]
    have hJ : (IntKind.u64.wrap kind).tmod 7 = 4 := HJ.out
    go_wp2_with (go_at_call 20; refine (num_any _ _).mono ?_; rintro e w' ⟨rfl, rfl⟩)
    go_ret
    exact ⟨rfl, HB4.out⟩
  · rw [show kFine 9 5 = false from rfl]
    have hJ : (IntKind.u64.wrap kind).tmod 7 = 5 := HJ.out
    go_wp2_with (go_at_call 20; refine (num_any _ _).mono ?_; rintro e w' ⟨rfl, rfl⟩)
    go_ret
    exact ⟨rfl, HB4.out⟩
  · rw [show kFine 9 6 = false from rfl]
    have hJ : (IntKind.u64.wrap kind).tmod 7 = 6 := HJ.out
    go_wp2_with (go_at_call 20; refine (num_any _ _).mono ?_; rintro e w' ⟨rfl, rfl⟩)
    go_ret
    exact ⟨rfl, HB4.out⟩
set_option maxRecDepth 20000 in
set_option maxHeartbeats 4000000 in
theorem kinds_10 (pick kind : Int) (w : World) (hX : Lx w) (hie : (IntKind.u64.wrap pick).tmod 14 = 10) : Calls Tryz.prog 6 #[.int .i64 pick, .int .i64 kind] w fun e w' => e = .returned (.bool true) ∧ Below w.heap.size w w' := by
  obtain ⟨j, hj, hje⟩ := u64_mod kind 7 (by decide)
  have HX := Lib.hid hX
  have HI := Lib.hid hie
  have HJ := Lib.hid (show (IntKind.u64.wrap kind).tmod 7 = (j : Int) from hje)
  clear hX hie hje
  go_enter Tryz.func6, Tryz.ntmps6
  go_upto_region 5 with (go_at_call 13; refine (awake_any _).mono ?_; rintro e w1 ⟨rfl, hb1⟩)
  rw [HI.out, show wrap64 10 = 10 from IntWalk.wrap64_in _ (by decide)]
  have hbx := heap_alloc_new w1 (.cells #[.string ⟨#[97]⟩, .string ⟨#[108, 101, 116]⟩, .string ⟨#[35, 97]⟩, .string ⟨#[49]⟩, .string ⟨#[49, 110]⟩, .string ⟨#[39, 97, 39]⟩, .string ⟨#[47, 97, 47]⟩, .string ⟨#[116, 104, 105, 115]⟩, .string ⟨#[110, 101, 119, 46, 116, 97, 114, 103, 101, 116]⟩, .string ⟨#[97, 119, 97, 105, 116]⟩, .string ⟨#[115, 117, 112, 101, 114]⟩, .string ⟨#[97, 32, 98]⟩, .string ⟨#[]⟩, .string ⟨#[117, 110, 100, 101, 102, 105, 110, 101, 100]⟩] 9)
  have hb2 := hb1.alloc hb1.size (.cells #[.string ⟨#[97]⟩, .string ⟨#[108, 101, 116]⟩, .string ⟨#[35, 97]⟩, .string ⟨#[49]⟩, .string ⟨#[49, 110]⟩, .string ⟨#[39, 97, 39]⟩, .string ⟨#[47, 97, 47]⟩, .string ⟨#[116, 104, 105, 115]⟩, .string ⟨#[110, 101, 119, 46, 116, 97, 114, 103, 101, 116]⟩, .string ⟨#[97, 119, 97, 105, 116]⟩, .string ⟨#[115, 117, 112, 101, 114]⟩, .string ⟨#[97, 32, 98]⟩, .string ⟨#[]⟩, .string ⟨#[117, 110, 100, 101, 102, 105, 110, 101, 100]⟩] 9)
  generalize World.alloc w1 _ = w2 at *
  generalize w1.heap.size = p at *
  have c0 := cell_of_row w2 p 10 _ _ _ hbx
  have hpl := (Array.getElem?_eq_some_iff.1 hbx).1
  have HB2 := Lib.hid hb2
  clear hbx hb1 hb2 HI
  go_upto_region 6 with fail
  clear c0
  have hjj : j < kKinds.length := hj
  have hky := heap_alloc_new w2 (.cells #[.int .i64 1, .int .i64 3, .int .i64 4, .int .i64 5, .int .i64 6, .int .i64 7, .int .i64 2] 3)
  have hb3 := HB2.out.alloc HB2.out.size (.cells #[.int .i64 1, .int .i64 3, .int .i64 4, .int .i64 5, .int .i64 6, .int .i64 7, .int .i64 2] 3)
  have c1 : (w2.alloc (.cells #[.int .i64 1, .int .i64 3, .int .i64 4, .int .i64 5, .int .i64 6, .int .i64 7, .int .i64 2] 3)).cell? ⟨w2.heap.size, j, none⟩ = some (.int .i64 kKinds[j]) := by
    rw [cell_of_row _ w2.heap.size j _ _ _ hky]
    match j, hj with
    | 0, _ => rfl
    | 1, _ => rfl
    | 2, _ => rfl
    | 3, _ => rfl
    | 4, _ => rfl
    | 5, _ => rfl
    | 6, _ => rfl
  have HCK := Lib.hid (tab_any 10 j (by decide) hjj _ (HX.out.bel hb3))
  have HB3 := Lib.hid hb3
  have hJ := HJ.out
  clear hky hb3
  go_wp2_with fail
  refine HCK.out.mono ?_
  rintro e w4 ⟨rfl, hb4⟩
  have HB4 := Lib.hid (bel_next HB3.out hb4)
  clear hb4 HCK c1 hJ hpl HB3 HB2
  have h7 : j = 0 ∨ j = 1 ∨ j = 2 ∨ j = 3 ∨ j = 4 ∨ j = 5 ∨ j = 6 := by omega
  generalize kKinds[j] = kk at *
  clear hjj hj
  rcases h7 with rfl | rfl | rfl | rfl | rfl | rfl | rfl
  · rw [show kFine 10 0 = false from rfl]
    have hJ : (IntKind.u64.wrap kind).tmod 7 = 0 := HJ.out
    go_wp2_with (go_at_call 20; refine (num_any _ _).mono ?_; rintro e w' ⟨rfl, rfl⟩)
    go_ret
    exact ⟨rfl, HB4.out⟩
  · rw [show kFine 10 1 = false from rfl]
    have hJ : (IntKind.u64.wrap kind).tmod 7 = 1 := HJ.out
    go_wp2_with (go_at_call 20; refine (num_any _ _).mono ?_; rintro e w' ⟨rfl, rfl⟩)
    go_ret
    exact ⟨rfl, HB4.out⟩
  · rw [show kFine 10 2 = false from rfl]
    have hJ : (IntKind.u64.wrap kind).tmod 7 = 2 := HJ.out
    go_wp2_with (go_at_call 20; refine (num_any _ _).mono ?_; rintro e w' ⟨rfl, rfl⟩)
    go_ret
    exact ⟨rfl, HB4.out⟩
  · rw [show kFine 10 3 = false from rfl]
    have hJ : (IntKind.u64.wrap kind).tmod 7 = 3 := HJ.out
    go_wp2_with (go_at_call 20; refine (num_any _ _).mono ?_; rintro e w' ⟨rfl, rfl⟩)
    go_ret
    exact ⟨rfl, HB4.out⟩
  · rw [show kFine 10 4 = false from rfl]
    have hJ : (IntKind.u64.wrap kind).tmod 7 = 4 := HJ.out
    go_wp2_with (go_at_call 20; refine (num_any _ _).mono ?_; rintro e w' ⟨rfl, rfl⟩)
    go_ret
    exact ⟨rfl, HB4.out⟩
  · rw [show kFine 10 5 = false from rfl]
    have hJ : (IntKind.u64.wrap kind).tmod 7 = 5 := HJ.out
    go_wp2_with (go_at_call 20; refine (num_any _ _).mono ?_; rintro e w' ⟨rfl, rfl⟩)
    go_ret
    exact ⟨rfl, HB4.out⟩
  · rw [show kFine 10 6 = false from rfl]
    have hJ : (IntKind.u64.wrap kind).tmod 7 = 6 := HJ.out
    go_wp2_with (go_at_call 20; refine (num_any _ _).mono ?_; rintro e w' ⟨rfl, rfl⟩)
    go_ret
    exact ⟨rfl, HB4.out⟩
set_option maxRecDepth 20000 in
set_option maxHeartbeats 4000000 in
theorem kinds_11 (pick kind : Int) (w : World) (hX : Lx w) (hie : (IntKind.u64.wrap pick).tmod 14 = 11) : Calls Tryz.prog 6 #[.int .i64 pick, .int .i64 kind] w fun e w' => e = .returned (.bool true) ∧ Below w.heap.size w w' := by
  obtain ⟨j, hj, hje⟩ := u64_mod kind 7 (by decide)
  have HX := Lib.hid hX
  have HI := Lib.hid hie
  have HJ := Lib.hid (show (IntKind.u64.wrap kind).tmod 7 = (j : Int) from hje)
  clear hX hie hje
  go_enter Tryz.func6, Tryz.ntmps6
  go_upto_region 5 with (go_at_call 13; refine (awake_any _).mono ?_; rintro e w1 ⟨rfl, hb1⟩)
  rw [HI.out, show wrap64 11 = 11 from IntWalk.wrap64_in _ (by decide)]
  have hbx := heap_alloc_new w1 (.cells #[.string ⟨#[97]⟩, .string ⟨#[108, 101, 116]⟩, .string ⟨#[35, 97]⟩, .string ⟨#[49]⟩, .string ⟨#[49, 110]⟩, .string ⟨#[39, 97, 39]⟩, .string ⟨#[47, 97, 47]⟩, .string ⟨#[116, 104, 105, 115]⟩, .string ⟨#[110, 101, 119, 46, 116, 97, 114, 103, 101, 116]⟩, .string ⟨#[97, 119, 97, 105, 116]⟩, .string ⟨#[115, 117, 112, 101, 114]⟩, .string ⟨#[97, 32, 98]⟩, .string ⟨#[]⟩, .string ⟨#[117, 110, 100, 101, 102, 105, 110, 101, 100]⟩] 9)
  have hb2 := hb1.alloc hb1.size (.cells #[.string ⟨#[97]⟩, .string ⟨#[108, 101, 116]⟩, .string ⟨#[35, 97]⟩, .string ⟨#[49]⟩, .string ⟨#[49, 110]⟩, .string ⟨#[39, 97, 39]⟩, .string ⟨#[47, 97, 47]⟩, .string ⟨#[116, 104, 105, 115]⟩, .string ⟨#[110, 101, 119, 46, 116, 97, 114, 103, 101, 116]⟩, .string ⟨#[97, 119, 97, 105, 116]⟩, .string ⟨#[115, 117, 112, 101, 114]⟩, .string ⟨#[97, 32, 98]⟩, .string ⟨#[]⟩, .string ⟨#[117, 110, 100, 101, 102, 105, 110, 101, 100]⟩] 9)
  generalize World.alloc w1 _ = w2 at *
  generalize w1.heap.size = p at *
  have c0 := cell_of_row w2 p 11 _ _ _ hbx
  have hpl := (Array.getElem?_eq_some_iff.1 hbx).1
  have HB2 := Lib.hid hb2
  clear hbx hb1 hb2 HI
  go_upto_region 6 with fail
  clear c0
  have hjj : j < kKinds.length := hj
  have hky := heap_alloc_new w2 (.cells #[.int .i64 1, .int .i64 3, .int .i64 4, .int .i64 5, .int .i64 6, .int .i64 7, .int .i64 2] 3)
  have hb3 := HB2.out.alloc HB2.out.size (.cells #[.int .i64 1, .int .i64 3, .int .i64 4, .int .i64 5, .int .i64 6, .int .i64 7, .int .i64 2] 3)
  have c1 : (w2.alloc (.cells #[.int .i64 1, .int .i64 3, .int .i64 4, .int .i64 5, .int .i64 6, .int .i64 7, .int .i64 2] 3)).cell? ⟨w2.heap.size, j, none⟩ = some (.int .i64 kKinds[j]) := by
    rw [cell_of_row _ w2.heap.size j _ _ _ hky]
    match j, hj with
    | 0, _ => rfl
    | 1, _ => rfl
    | 2, _ => rfl
    | 3, _ => rfl
    | 4, _ => rfl
    | 5, _ => rfl
    | 6, _ => rfl
  have HCK := Lib.hid (tab_any 11 j (by decide) hjj _ (HX.out.bel hb3))
  have HB3 := Lib.hid hb3
  have hJ := HJ.out
  clear hky hb3
  go_wp2_with fail
  refine HCK.out.mono ?_
  rintro e w4 ⟨rfl, hb4⟩
  have HB4 := Lib.hid (bel_next HB3.out hb4)
  clear hb4 HCK c1 hJ hpl HB3 HB2
  have h7 : j = 0 ∨ j = 1 ∨ j = 2 ∨ j = 3 ∨ j = 4 ∨ j = 5 ∨ j = 6 := by omega
  generalize kKinds[j] = kk at *
  clear hjj hj
  rcases h7 with rfl | rfl | rfl | rfl | rfl | rfl | rfl
  · rw [show kFine 11 0 = false from rfl]
    have hJ : (IntKind.u64.wrap kind).tmod 7 = 0 := HJ.out
    go_wp2_with (go_at_call 20; refine (num_any _ _).mono ?_; rintro e w' ⟨rfl, rfl⟩)
    go_ret
    exact ⟨rfl, HB4.out⟩
  · rw [show kFine 11 1 = false from rfl]
    have hJ : (IntKind.u64.wrap kind).tmod 7 = 1 := HJ.out
    go_wp2_with (go_at_call 20; refine (num_any _ _).mono ?_; rintro e w' ⟨rfl, rfl⟩)
    go_ret
    exact ⟨rfl, HB4.out⟩
  · rw [show kFine 11 2 = false from rfl]
    have hJ : (IntKind.u64.wrap kind).tmod 7 = 2 := HJ.out
    go_wp2_with (go_at_call 20; refine (num_any _ _).mono ?_; rintro e w' ⟨rfl, rfl⟩)
    go_ret
    exact ⟨rfl, HB4.out⟩
  · rw [show kFine 11 3 = false from rfl]
    have hJ : (IntKind.u64.wrap kind).tmod 7 = 3 := HJ.out
    go_wp2_with (go_at_call 20; refine (num_any _ _).mono ?_; rintro e w' ⟨rfl, rfl⟩)
    go_ret
    exact ⟨rfl, HB4.out⟩
  · rw [show kFine 11 4 = false from rfl]
    have hJ : (IntKind.u64.wrap kind).tmod 7 = 4 := HJ.out
    go_wp2_with (go_at_call 20; refine (num_any _ _).mono ?_; rintro e w' ⟨rfl, rfl⟩)
    go_ret
    exact ⟨rfl, HB4.out⟩
  · rw [show kFine 11 5 = false from rfl]
    have hJ : (IntKind.u64.wrap kind).tmod 7 = 5 := HJ.out
    go_wp2_with (go_at_call 20; refine (num_any _ _).mono ?_; rintro e w' ⟨rfl, rfl⟩)
    go_ret
    exact ⟨rfl, HB4.out⟩
  · rw [show kFine 11 6 = false from rfl]
    have hJ : (IntKind.u64.wrap kind).tmod 7 = 6 := HJ.out
    go_wp2_with (go_at_call 20; refine (num_any _ _).mono ?_; rintro e w' ⟨rfl, rfl⟩)
    go_ret
    exact ⟨rfl, HB4.out⟩
set_option maxRecDepth 20000 in
set_option maxHeartbeats 4000000 in
theorem kinds_12 (pick kind : Int) (w : World) (hX : Lx w) (hie : (IntKind.u64.wrap pick).tmod 14 = 12) : Calls Tryz.prog 6 #[.int .i64 pick, .int .i64 kind] w fun e w' => e = .returned (.bool true) ∧ Below w.heap.size w w' := by
  obtain ⟨j, hj, hje⟩ := u64_mod kind 7 (by decide)
  have HX := Lib.hid hX
  have HI := Lib.hid hie
  have HJ := Lib.hid (show (IntKind.u64.wrap kind).tmod 7 = (j : Int) from hje)
  clear hX hie hje
  go_enter Tryz.func6, Tryz.ntmps6
  go_upto_region 5 with (go_at_call 13; refine (awake_any _).mono ?_; rintro e w1 ⟨rfl, hb1⟩)
  rw [HI.out, show wrap64 12 = 12 from IntWalk.wrap64_in _ (by decide)]
  have hbx := heap_alloc_new w1 (.cells #[.string ⟨#[97]⟩, .string ⟨#[108, 101, 116]⟩, .string ⟨#[35, 97]⟩, .string ⟨#[49]⟩, .string ⟨#[49, 110]⟩, .string ⟨#[39, 97, 39]⟩, .string ⟨#[47, 97, 47]⟩, .string ⟨#[116, 104, 105, 115]⟩, .string ⟨#[110, 101, 119, 46, 116, 97, 114, 103, 101, 116]⟩, .string ⟨#[97, 119, 97, 105, 116]⟩, .string ⟨#[115, 117, 112, 101, 114]⟩, .string ⟨#[97, 32, 98]⟩, .string ⟨#[]⟩, .string ⟨#[117, 110, 100, 101, 102, 105, 110, 101, 100]⟩] 9)
  have hb2 := hb1.alloc hb1.size (.cells #[.string ⟨#[97]⟩, .string ⟨#[108, 101, 116]⟩, .string ⟨#[35, 97]⟩, .string ⟨#[49]⟩, .string ⟨#[49, 110]⟩, .string ⟨#[39, 97, 39]⟩, .string ⟨#[47, 97, 47]⟩, .string ⟨#[116, 104, 105, 115]⟩, .string ⟨#[110, 101, 119, 46, 116, 97, 114, 103, 101, 116]⟩, .string ⟨#[97, 119, 97, 105, 116]⟩, .string ⟨#[115, 117, 112, 101, 114]⟩, .string ⟨#[97, 32, 98]⟩, .string ⟨#[]⟩, .string ⟨#[117, 110, 100, 101, 102, 105, 110, 101, 100]⟩] 9)
  generalize World.alloc w1 _ = w2 at *
  generalize w1.heap.size = p at *
  have c0 := cell_of_row w2 p 12 _ _ _ hbx
  have hpl := (Array.getElem?_eq_some_iff.1 hbx).1
  have HB2 := Lib.hid hb2
  clear hbx hb1 hb2 HI
  go_upto_region 6 with fail
  clear c0
  have hjj : j < kKinds.length := hj
  have hky := heap_alloc_new w2 (.cells #[.int .i64 1, .int .i64 3, .int .i64 4, .int .i64 5, .int .i64 6, .int .i64 7, .int .i64 2] 3)
  have hb3 := HB2.out.alloc HB2.out.size (.cells #[.int .i64 1, .int .i64 3, .int .i64 4, .int .i64 5, .int .i64 6, .int .i64 7, .int .i64 2] 3)
  have c1 : (w2.alloc (.cells #[.int .i64 1, .int .i64 3, .int .i64 4, .int .i64 5, .int .i64 6, .int .i64 7, .int .i64 2] 3)).cell? ⟨w2.heap.size, j, none⟩ = some (.int .i64 kKinds[j]) := by
    rw [cell_of_row _ w2.heap.size j _ _ _ hky]
    match j, hj with
    | 0, _ => rfl
    | 1, _ => rfl
    | 2, _ => rfl
    | 3, _ => rfl
    | 4, _ => rfl
    | 5, _ => rfl
    | 6, _ => rfl
  have HCK := Lib.hid (tab_any 12 j (by decide) hjj _ (HX.out.bel hb3))
  have HB3 := Lib.hid hb3
  have hJ := HJ.out
  clear hky hb3
  go_wp2_with fail
  refine HCK.out.mono ?_
  rintro e w4 ⟨rfl, hb4⟩
  have HB4 := Lib.hid (bel_next HB3.out hb4)
  clear hb4 HCK c1 hJ hpl HB3 HB2
  have h7 : j = 0 ∨ j = 1 ∨ j = 2 ∨ j = 3 ∨ j = 4 ∨ j = 5 ∨ j = 6 := by omega
  generalize kKinds[j] = kk at *
  clear hjj hj
  rcases h7 with rfl | rfl | rfl | rfl | rfl | rfl | rfl
  · rw [show kFine 12 0 = false from rfl]
    have hJ : (IntKind.u64.wrap kind).tmod 7 = 0 := HJ.out
    go_wp2_with (go_at_call 20; refine (num_any _ _).mono ?_; rintro e w' ⟨rfl, rfl⟩)
    go_ret
    exact ⟨rfl, HB4.out⟩
  · rw [show kFine 12 1 = false from rfl]
    have hJ : (IntKind.u64.wrap kind).tmod 7 = 1 := HJ.out
    go_wp2_with (go_at_call 20; refine (num_any _ _).mono ?_; rintro e w' ⟨rfl, rfl⟩)
    go_ret
    exact ⟨rfl, HB4.out⟩
  · rw [show kFine 12 2 = false from rfl]
    have hJ : (IntKind.u64.wrap kind).tmod 7 = 2 := HJ.out
    go_wp2_with (go_at_call 20; refine (num_any _ _).mono ?_; rintro e w' ⟨rfl, rfl⟩)
    go_ret
    exact ⟨rfl, HB4.out⟩
  · rw [show kFine 12 3 = false from rfl]
    have hJ : (IntKind.u64.wrap kind).tmod 7 = 3 := HJ.out
    go_wp2_with (go_at_call 20; refine (num_any _ _).mono ?_; rintro e w' ⟨rfl, rfl⟩)
    go_ret
    exact ⟨rfl, HB4.out⟩
  · rw [show kFine 12 4 = false from rfl]
    have hJ : (IntKind.u64.wrap kind).tmod 7 = 4 := HJ.out
    go_wp2_with (go_at_call 20; refine (num_any _ _).mono ?_; rintro e w' ⟨rfl, rfl⟩)
    go_ret
    exact ⟨rfl, HB4.out⟩
  · rw [show kFine 12 5 = false from rfl]
    have hJ : (IntKind.u64.wrap kind).tmod 7 = 5 := HJ.out
    go_wp2_with (go_at_call 20; refine (num_any _ _).mono ?_; rintro e w' ⟨rfl, rfl⟩)
    go_ret
    exact ⟨rfl, HB4.out⟩
  · rw [show kFine 12 6 = false from rfl]
    have hJ : (IntKind.u64.wrap kind).tmod 7 = 6 := HJ.out
    go_wp2_with (go_at_call 20; refine (num_any _ _).mono ?_; rintro e w' ⟨rfl, rfl⟩)
    go_ret
    exact ⟨rfl, HB4.out⟩
set_option maxRecDepth 20000 in
set_option maxHeartbeats 4000000 in
theorem kinds_13 (pick kind : Int) (w : World) (hX : Lx w) (hie : (IntKind.u64.wrap pick).tmod 14 = 13) : Calls Tryz.prog 6 #[.int .i64 pick, .int .i64 kind] w fun e w' => e = .returned (.bool true) ∧ Below w.heap.size w w' := by
  obtain ⟨j, hj, hje⟩ := u64_mod kind 7 (by decide)
  have HX := Lib.hid hX
  have HI := Lib.hid hie
  have HJ := Lib.hid (show (IntKind.u64.wrap kind).tmod 7 = (j : Int) from hje)
  clear hX hie hje
  go_enter Tryz.func6, Tryz.ntmps6
  go_upto_region 5 with (go_at_call 13; refine (awake_any _).mono ?_; rintro e w1 ⟨rfl, hb1⟩)
  rw [HI.out, show wrap64 13 = 13 from IntWalk.wrap64_in _ (by decide)]
  have hbx := heap_alloc_new w1 (.cells #[.string ⟨#[97]⟩, .string ⟨#[108, 101, 116]⟩, .string ⟨#[35, 97]⟩, .string ⟨#[49]⟩, .string ⟨#[49, 110]⟩, .string ⟨#[39, 97, 39]⟩, .string ⟨#[47, 97, 47]⟩, .string ⟨#[116, 104, 105, 115]⟩, .string ⟨#[110, 101, 119, 46, 116, 97, 114, 103, 101, 116]⟩, .string ⟨#[97, 119, 97, 105, 116]⟩, .string ⟨#[115, 117, 112, 101, 114]⟩, .string ⟨#[97, 32, 98]⟩, .string ⟨#[]⟩, .string ⟨#[117, 110, 100, 101, 102, 105, 110, 101, 100]⟩] 9)
  have hb2 := hb1.alloc hb1.size (.cells #[.string ⟨#[97]⟩, .string ⟨#[108, 101, 116]⟩, .string ⟨#[35, 97]⟩, .string ⟨#[49]⟩, .string ⟨#[49, 110]⟩, .string ⟨#[39, 97, 39]⟩, .string ⟨#[47, 97, 47]⟩, .string ⟨#[116, 104, 105, 115]⟩, .string ⟨#[110, 101, 119, 46, 116, 97, 114, 103, 101, 116]⟩, .string ⟨#[97, 119, 97, 105, 116]⟩, .string ⟨#[115, 117, 112, 101, 114]⟩, .string ⟨#[97, 32, 98]⟩, .string ⟨#[]⟩, .string ⟨#[117, 110, 100, 101, 102, 105, 110, 101, 100]⟩] 9)
  generalize World.alloc w1 _ = w2 at *
  generalize w1.heap.size = p at *
  have c0 := cell_of_row w2 p 13 _ _ _ hbx
  have hpl := (Array.getElem?_eq_some_iff.1 hbx).1
  have HB2 := Lib.hid hb2
  clear hbx hb1 hb2 HI
  go_upto_region 6 with fail
  clear c0
  have hjj : j < kKinds.length := hj
  have hky := heap_alloc_new w2 (.cells #[.int .i64 1, .int .i64 3, .int .i64 4, .int .i64 5, .int .i64 6, .int .i64 7, .int .i64 2] 3)
  have hb3 := HB2.out.alloc HB2.out.size (.cells #[.int .i64 1, .int .i64 3, .int .i64 4, .int .i64 5, .int .i64 6, .int .i64 7, .int .i64 2] 3)
  have c1 : (w2.alloc (.cells #[.int .i64 1, .int .i64 3, .int .i64 4, .int .i64 5, .int .i64 6, .int .i64 7, .int .i64 2] 3)).cell? ⟨w2.heap.size, j, none⟩ = some (.int .i64 kKinds[j]) := by
    rw [cell_of_row _ w2.heap.size j _ _ _ hky]
    match j, hj with
    | 0, _ => rfl
    | 1, _ => rfl
    | 2, _ => rfl
    | 3, _ => rfl
    | 4, _ => rfl
    | 5, _ => rfl
    | 6, _ => rfl
  have HCK := Lib.hid (tab_any 13 j (by decide) hjj _ (HX.out.bel hb3))
  have HB3 := Lib.hid hb3
  have hJ := HJ.out
  clear hky hb3
  go_wp2_with fail
  refine HCK.out.mono ?_
  rintro e w4 ⟨rfl, hb4⟩
  have HB4 := Lib.hid (bel_next HB3.out hb4)
  clear hb4 HCK c1 hJ hpl HB3 HB2
  have h7 : j = 0 ∨ j = 1 ∨ j = 2 ∨ j = 3 ∨ j = 4 ∨ j = 5 ∨ j = 6 := by omega
  generalize kKinds[j] = kk at *
  clear hjj hj
  rcases h7 with rfl | rfl | rfl | rfl | rfl | rfl | rfl
  · rw [show kFine 13 0 = true from rfl]
    have hJ : (IntKind.u64.wrap kind).tmod 7 = 0 := HJ.out
    go_wp2_with (go_at_call 20; refine (num_any _ _).mono ?_; rintro e w' ⟨rfl, rfl⟩)
    go_ret
    exact ⟨rfl, HB4.out⟩
  · rw [show kFine 13 1 = false from rfl]
    have hJ : (IntKind.u64.wrap kind).tmod 7 = 1 := HJ.out
    go_wp2_with (go_at_call 20; refine (num_any _ _).mono ?_; rintro e w' ⟨rfl, rfl⟩)
    go_ret
    exact ⟨rfl, HB4.out⟩
  · rw [show kFine 13 2 = false from rfl]
    have hJ : (IntKind.u64.wrap kind).tmod 7 = 2 := HJ.out
    go_wp2_with (go_at_call 20; refine (num_any _ _).mono ?_; rintro e w' ⟨rfl, rfl⟩)
    go_ret
    exact ⟨rfl, HB4.out⟩
  · rw [show kFine 13 3 = false from rfl]
    have hJ : (IntKind.u64.wrap kind).tmod 7 = 3 := HJ.out
    go_wp2_with (go_at_call 20; refine (num_any _ _).mono ?_; rintro e w' ⟨rfl, rfl⟩)
    go_ret
    exact ⟨rfl, HB4.out⟩
  · rw [show kFine 13 4 = false from rfl]
    have hJ : (IntKind.u64.wrap kind).tmod 7 = 4 := HJ.out
    go_wp2_with (go_at_call 20; refine (num_any _ _).mono ?_; rintro e w' ⟨rfl, rfl⟩)
    go_ret
    exact ⟨rfl, HB4.out⟩
  · rw [show kFine 13 5 = false from rfl]
    have hJ : (IntKind.u64.wrap kind).tmod 7 = 5 := HJ.out
    go_wp2_with (go_at_call 20; refine (num_any _ _).mono ?_; rintro e w' ⟨rfl, rfl⟩)
    go_ret
    exact ⟨rfl, HB4.out⟩
  · rw [show kFine 13 6 = false from rfl]
    have hJ : (IntKind.u64.wrap kind).tmod 7 = 6 := HJ.out
    go_wp2_with (go_at_call 20; refine (num_any _ _).mono ?_; rintro e w' ⟨rfl, rfl⟩)
    go_ret
    exact ⟨rfl, HB4.out⟩
/-- AstKinds' own function. -/
theorem kinds_any (pick kind : Int) (w : World) (hX : Lx w) : Calls Tryz.prog 6 #[.int .i64 pick, .int .i64 kind] w fun e w' => e = .returned (.bool true) ∧ Below w.heap.size w w' := by
  obtain ⟨i, hi, hie⟩ := u64_mod pick 14 (by decide)
  have h : i = 0 ∨ i = 1 ∨ i = 2 ∨ i = 3 ∨ i = 4 ∨ i = 5 ∨ i = 6 ∨ i = 7 ∨ i = 8 ∨ i = 9 ∨ i = 10 ∨ i = 11 ∨ i = 12 ∨ i = 13 := by omega
  rcases h with rfl | rfl | rfl | rfl | rfl | rfl | rfl | rfl | rfl | rfl | rfl | rfl | rfl | rfl
  · exact kinds_0 pick kind w hX hie
  · exact kinds_1 pick kind w hX hie
  · exact kinds_2 pick kind w hX hie
  · exact kinds_3 pick kind w hX hie
  · exact kinds_4 pick kind w hX hie
  · exact kinds_5 pick kind w hX hie
  · exact kinds_6 pick kind w hX hie
  · exact kinds_7 pick kind w hX hie
  · exact kinds_8 pick kind w hX hie
  · exact kinds_9 pick kind w hX hie
  · exact kinds_10 pick kind w hX hie
  · exact kinds_11 pick kind w hX hie
  · exact kinds_12 pick kind w hX hie
  · exact kinds_13 pick kind w hX hie
end Go.Proofs.YteejjkfmmhegmaaGreatDoor
