/- Parts: ParseNews' function answers true: new takes the arguments nearest to it. Condition: what a law leans on. -/
import Derived.Test.YtfnjjgmhjbhclaaGreatDoorPn30
import Derived.Test.YtfnjjgmhjbhclaaGreatDoorPn28
namespace Go.Proofs.YtfnjjgmhjbhclaaGreatDoor
section
open Go.RowKit
theorem nwN_len : ∀ j : Nat, (nwN j).length = 4 * j + 1
 | 0 => rfl
 | j + 1 => by rw [nwN, List.length_append, nwN_len j]; simp only [List.length_cons, List.length_nil]; omega
theorem nwM_len (k : Nat) : ∀ j : Nat, (nwM k j).length = 4 * k + 1 + 2 * j
 | 0 => by rw [nwM, nwN_len]
 | j + 1 => by rw [nwM, List.length_append, nwM_len k j]; simp only [List.length_cons, List.length_nil]; omega
theorem nw_is {k m : Nat} {S : ByteArray} (hk : k < 16) (hm : m < 16) (hS : S.data.toList = nwM k m) : ∃ n q, exprQ S false 120 = .ok n q ∧ ndSize n ≤ 4194304 ∧ ndSize (bareT n) ≤ 4194304 ∧ sameNd (bareT n) (nwC k m m) = true := by
 have e : S = newT k m := ba_ext (by rw [hS]; rfl)
 have h := nw_all k m hk hm
 unfold nwOk at h
 rw [← e] at h
 cases hT : exprQ S false 120 with
 | out => rw [hT] at h; cases h
 | bad c i => rw [hT] at h; cases h
 | ok n q =>
  rw [hT] at h
  simp only [Bool.and_eq_true, decide_eq_true_eq] at h
  obtain ⟨h1, h2⟩ := h
  refine ⟨n, q, rfl, by omega, ?_, ?_⟩
  ·rw [bareT_of h1]
   exact Nat.le_trans (bare_size n) (by omega)
  ·rw [bareT_of h1]
   exact h2
theorem and15 (q : Int) : ∃ n : Nat, n < 16 ∧ bits .and .i64 q 15 = (n : Int) := by
 refine ⟨(BitVec.ofInt 64 q &&& BitVec.ofInt 64 15).toNat, ?_, ?_⟩
 ·rw [BitVec.toNat_and]
  exact Nat.lt_of_le_of_lt Nat.and_le_right (by decide)
 ·show IntKind.i64.wrap ((BitVec.ofInt 64 q &&& BitVec.ofInt 64 15).toNat : Int) = _
  refine IntWalk.i64_in _ ?_
  have h : (BitVec.ofInt 64 q &&& BitVec.ofInt 64 15).toNat < 16 := by
   rw [BitVec.toNat_and]
   exact Nat.lt_of_le_of_lt Nat.and_le_right (by decide)
  omega
theorem pair_ok {w : World} {r : Nat} {n : Nd} {b : Option Addr} {c : Nat} (h : WBox w r n b c) (o : Obj) {x : Nd} (hx : x.kids = []) : ∀ y ∈ ([(n, b, c), (x, none, 0)] : List Kd), y.1.kids.length ≤ y.2.2 ∧ RowA (w.alloc o) r (w.alloc o).heap.size y.1.kids y.2.1 := by
 intro y hy
 simp only [List.mem_cons, List.not_mem_nil, or_false] at hy
 rcases hy with rfl | rfl
 ·exact ⟨h.cap, h.row.bel (fun k hk _ => Below.heap_alloc _ _ _ hk) (by rw [World.size_alloc]; omega)⟩
 ·show x.kids.length ≤ 0 ∧ RowA _ _ _ x.kids _
  rw [hx]
  exact ⟨Nat.le_refl _, RowA.nil _ _ _ _⟩
theorem pair_ok2 {w : World} {r : Nat} {n : Nd} {b : Option Addr} {c : Nat} (h : WBox w r n b c) {x : Nd} (hx : x.kids = []) : ∀ y ∈ ([(n, b, c), (x, none, 0)] : List Kd), y.1.kids.length ≤ y.2.2 ∧ RowA w r w.heap.size y.1.kids y.2.1 := by
 intro y hy
 simp only [List.mem_cons, List.not_mem_nil, or_false] at hy
 rcases hy with rfl | rfl
 ·exact ⟨h.cap, h.row⟩
 ·show x.kids.length ≤ 0 ∧ RowA _ _ _ x.kids _
  rw [hx]
  exact ⟨Nat.le_refl _, RowA.nil _ _ _ _⟩
def NwL (w : World) (r m k : Nat) (s i : Value) (wr : World) : Prop := ∃ (j : Nat) (S : ByteArray), j ≤ k ∧ i = .int .i64 j ∧ s = .string S ∧ S.data.toList = nwN j ∧ WSt w r (nwW m j) wr
def NwL2 (w : World) (r m k : Nat) (s i : Value) (wr : World) : Prop := ∃ (j : Nat) (S : ByteArray), j ≤ m ∧ i = .int .i64 j ∧ s = .string S ∧ S.data.toList = nwM k j ∧ WSt w r (nwC k m j) wr
set_option maxRecDepth 100000 in
set_option maxHeartbeats 8000000 in
theorem news_any (a b : Int) (w : World) (hx : Lx w) : Calls Tryz.prog 7 #[.int .i64 a, .int .i64 b] w fun e w' => e = .returned (.bool true) ∧ Below w.heap.size w w' := by
 obtain ⟨k, hk, hkb⟩ := and15 a
 obtain ⟨m, hm, hmb⟩ := and15 b
 have HX := Lib.hid hx
 have HK := Lib.hid hkb
 have HM := Lib.hid hmb
 clear hx hkb hmb
 go_enter Tryz.func7, Tryz.ntmps7
 go_wp2_with fail
 refine (awake_any w HX.out).mono ?_
 rintro e w1 ⟨rfl, hb1⟩
 go_upto_region 5 with fail
 rw [HK.out, HM.out]
 clear HK HM
 go_wp2_with fail
 refine (ident_any _ _).mono ?_
 rintro e w2 ⟨rfl, hb2⟩
 have hb3 := bel_next hb1 hb2
 clear hb1 hb2
 go_upto_region 6 with fail
 have HS := Lib.hid (WSt.leaf hb3 ⟨#[97]⟩)
 generalize World.alloc w2 _ = w3 at *
 generalize w2.heap.size = r at *
 clear hb3
 go_wp2_with fail
 go_loopw [7, 9, 10] (fun s i _ wr => NwL w r m k s i wr) (fun _ i _ _ => k - (intOf i).toNat)
 case atStart => exact ⟨0, ⟨#[97]⟩, Nat.zero_le _, rfl, rfl, rfl, HS.out⟩
 case round =>
  clear HS
  obtain ⟨j, S, hj, rfl, rfl, hS, hst⟩ := hrel
  have hsz : S.size ≤ 100 := by rw [ba_size hS, nwN_len]; omega
  have HT := Lib.hid hS
  have HST := Lib.hid hst
  obtain ⟨b, cap, hbx⟩ := hst.ex
  have HB := Lib.hid hbx
  have hrl := hbx.box.lt
  obtain ⟨x0, x1, x2, x3, x4, y0, y1, y2, y3, y4⟩ := NdBoxV.facts hbx.box
  clear hS hst hbx
  by_cases hlt : j < k
  ·by_cases hjm : j < m
   ·go_wp2_with fail
    go_roundw
    case rel => exact ⟨j + 1, _, hlt, by go_num, rfl, by simp [ByteArray.data_append, HT.out, nwN], by rw [nwW, nwX, if_pos hjm]; exact HST.out.over3 _ HB.out (ns := [(nwW m j, b, cap), (.mk 36 ⟨#[]⟩ [] 0 0, none, 0)]) (pair_ok HB.out _ rfl) 37 ⟨#[]⟩ rfl⟩
    case measure => simp [intOf]; omega
   ·go_wp2_with fail
    go_roundw
    case rel => exact ⟨j + 1, _, hlt, by go_num, rfl, by simp [ByteArray.data_append, HT.out, nwN], by rw [nwW, nwX, if_neg hjm]; exact HST.out.over3 _ HB.out (ns := [(nwW m j, b, cap), (.zero, none, 0)]) (pair_ok HB.out _ rfl) 37 ⟨#[]⟩ rfl⟩
    case measure => simp [intOf]; omega
  ·have hjk : k = j := by omega
   subst hjk
   clear HB x0 x1 x2 x3 x4 y0 y1 y2 y3 y4
   go_wp2_with fail
   go_loopw [7, 11] (fun s i wr2 => NwL2 w r m k s i wr2) (fun _ i _ => m - (intOf i).toNat)
   case atStart => exact ⟨0, S, Nat.zero_le _, rfl, rfl, HT.out, HST.out⟩
   case round =>
    clear HST HT hsz
    obtain ⟨i, S2, hi, rfl, rfl, hS, hst⟩ := hrel
    have hsz : S2.size ≤ 200 := by rw [ba_size hS, nwM_len]; omega
    have HT := Lib.hid hS
    have HST := Lib.hid hst
    obtain ⟨b2, cap2, hbx⟩ := hst.ex
    have HB := Lib.hid hbx
    have hrl2 := hbx.box.lt
    obtain ⟨x0, x1, x2, x3, x4, y0, y1, y2, y3, y4⟩ := NdBoxV.facts hbx.box
    by_cases hlt2 : i < m
    ·clear hS hst hbx
     by_cases hki : k ≤ i
     ·go_wp2_with fail
      go_roundw
      case rel => exact ⟨i + 1, _, hlt2, by go_num, rfl, by simp [ByteArray.data_append, HT.out, nwM], by rw [nwC, if_pos hki]; exact HST.out.over2 HB.out (ns := [(nwC k m i, b2, cap2), (.mk 36 ⟨#[]⟩ [] 0 0, none, 0)]) (pair_ok2 HB.out rfl) 35 ⟨#[]⟩ rfl⟩
      case measure => simp [intOf]; omega
     ·go_wp2_with fail
      go_roundw
      case rel => exact ⟨i + 1, _, hlt2, by go_num, rfl, by simp [ByteArray.data_append, HT.out, nwM], by rw [nwC, if_neg hki]; exact HST.out⟩
      case measure => simp [intOf]; omega
    ·have him : m = i := by omega
     subst him
     obtain ⟨n, q, hE, hz1, hz2, hTrue⟩ := nw_is hk hm hS
     have HI := Lib.hid (fun W hb => same_is 120 (by decide) (by omega) hE hz1 hz2 (nwC k m m) _ 0 wr.heap.size W (NdV_bel hbx.v hb) hb.size (HX.out.bel (bel_next hst.bel hb)))
     rw [hTrue] at HI
     clear hE hz1 hz2 hTrue hst hbx hS
     go_wp2_with fail
     refine (HI.out _ (Below.refl _ _)).mono ?_
     rintro e w6 ⟨rfl, hb6⟩
     go_wp2_with fail
     go_ret
     exact ⟨rfl, bel_next HST.out.bel hb6⟩
end
end Go.Proofs.YtfnjjgmhjbhclaaGreatDoor
