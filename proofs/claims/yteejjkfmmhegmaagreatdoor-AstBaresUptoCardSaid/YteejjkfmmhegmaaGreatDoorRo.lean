/- Contracts of roomNode, KeptNode, ShallowNode. Condition: at most 2^22 nodes. -/
import Derived.Test.YteejjkfmmhegmaaGreatDoorLe
namespace Go.Proofs.YteejjkfmmhegmaaGreatDoor
open Go.RowKit

theorem LnR_cells {w : World} {L B : Nat} {a : Option Addr} {ks : List Nd} (h : LnR w L B ks a 0) (j : Nat) (hj : j < ks.length) :
    ∃ g off b cap, a = some ⟨g, off, none⟩ ∧ g < B ∧ w.cell? ⟨g, off + j * 5, none⟩ = some (.int .i64 ks[j].kind) ∧ w.cell? ⟨g, off + j * 5 + 1, none⟩ = some (.string ks[j].text) ∧
      w.cell? ⟨g, off + j * 5 + 2, none⟩ = some (.slice b ks[j].kids.length cap) ∧ w.cell? ⟨g, off + j * 5 + 3, none⟩ = some (.int .i64 ks[j].from') ∧ w.cell? ⟨g, off + j * 5 + 4, none⟩ = some (.int .i64 ks[j].till) ∧
      LnV w L B ks[j] (.agg #[.int .i64 ks[j].kind, .string ks[j].text, .slice b ks[j].kids.length cap, .int .i64 ks[j].from', .int .i64 ks[j].till]) := by
  obtain ⟨g, off, ha, hn⟩ := LnR_get h j hj
  rw [Nat.zero_add, LnC_eq] at hn
  obtain ⟨b, cap, _, h3, c0, c1, c2, c3, c4, hc⟩ := hn
  exact ⟨g, off, b, cap, ha, h3, c0, c1, c2, c3, c4, b, cap, rfl, hc⟩
/-- the mark, as a value. -/
theorem mk7_v (w : World) (L B : Nat) (b : Option Addr) (c : Nat) : NdV w L B mk7 (.agg #[.int .i64 (-7), .string ⟨#[]⟩, .slice b 0 c, .int .i64 0, .int .i64 0]) :=
  ⟨b, c, rfl, Nat.zero_le _, by show RowP _ _ _ [] _ _; rw [RowP]; trivial⟩
/-- a function under way that has boxed a lent node, and leaves all old blocks alone. -/
structure RoS (w0 : World) (p L B : Nat) (n : Nd) (b : Option Addr) (cap : Nat) (wr : World) : Prop where
  box : NdBox wr p n.kind n.text b n.kids.length cap n.from' n.till
  row : LnR wr L B n.kids b 0
  mark : Mk7 wr L B b n.kids.length
  bel : Below w0.heap.size w0 wr
  hp : w0.heap.size ≤ p
  hB : B ≤ w0.heap.size
theorem RoS.bel' {w0 wr w' : World} {p L B : Nat} {n : Nd} {b : Option Addr} {cap : Nat} (h : RoS w0 p L B n b cap wr) (hb : Below wr.heap.size wr w') : RoS w0 p L B n b cap w' :=
  ⟨h.box.bel hb h.box.lt, LnR_keep (Nat.le_refl _) (Nat.le_refl _) (fun k _ hk => hb.block k (Nat.lt_of_lt_of_le hk (Nat.le_trans h.hB h.bel.size))) h.row,
    h.mark.keep (Nat.le_refl _) (Nat.le_refl _) (fun k _ hk => hb.block k (Nat.lt_of_lt_of_le hk (Nat.le_trans h.hB h.bel.size))), bel_next h.bel hb, h.hp, h.hB⟩
theorem Mk7.cells {w : World} {L B : Nat} {b : Option Addr} {m : Nat} (h : Mk7 w L B b m) : ∃ g off b1 c1 b2 c2, b = some ⟨g, off, none⟩ ∧ g < B ∧
    w.cell? ⟨g, off + m * 5, none⟩ = some (.int .i64 (-7)) ∧ w.cell? ⟨g, off + m * 5 + 1, none⟩ = some (.string ⟨#[]⟩) ∧ w.cell? ⟨g, off + m * 5 + 2, none⟩ = some (.slice b1 0 c1) ∧ w.cell? ⟨g, off + m * 5 + 3, none⟩ = some (.int .i64 0) ∧ w.cell? ⟨g, off + m * 5 + 4, none⟩ = some (.int .i64 0) ∧
    w.cell? ⟨g, off + (m + 1) * 5, none⟩ = some (.int .i64 (-7)) ∧ w.cell? ⟨g, off + (m + 1) * 5 + 1, none⟩ = some (.string ⟨#[]⟩) ∧ w.cell? ⟨g, off + (m + 1) * 5 + 2, none⟩ = some (.slice b2 0 c2) ∧ w.cell? ⟨g, off + (m + 1) * 5 + 3, none⟩ = some (.int .i64 0) ∧ w.cell? ⟨g, off + (m + 1) * 5 + 4, none⟩ = some (.int .i64 0) := by
  obtain ⟨g, off, e, h1, h2⟩ := h
  rw [NdC_eq] at h1 h2
  obtain ⟨b1, c1, _, hg, x0, x1, x2, x3, x4, _⟩ := h1
  obtain ⟨b2, c2, _, _, y0, y1, y2, y3, y4, _⟩ := h2
  exact ⟨g, off, b1, c1, b2, c2, e, hg, x0, x1, x2, x3, x4, y0, y1, y2, y3, y4⟩
set_option maxRecDepth 20000 in
set_option maxHeartbeats 2000000 in
theorem room_any (n : Nd) : ∀ (v : Value) (w : World) (L B : Nat), LnV w L B n v → B ≤ w.heap.size → ndSize n ≤ 4194304 →
    Calls Tryz.prog 24 #[v] w fun e w' => e = .returned (.bool true) ∧ Below w.heap.size w w' := by
  induction n using Nd.ind with
  | h n ih =>
    intro v w L B hv hB hsz
    obtain ⟨b, cap, rfl, hcap, hrow, hmk⟩ := hv
    have hkc := kid_count n
    have HIH := Lib.hid (fun (W : World) (j : Nat) (hj : j < n.kids.length) (u : Value) (hu : LnV W L B n.kids[j] u) (hW : B ≤ W.heap.size) => ih _ (List.getElem_mem hj) u W L B hu hW (by have := kid_size hj; omega))
    have hba : Below w.heap.size w (w.alloc (.cells #[.int .i64 n.kind, .string n.text, .slice b n.kids.length cap, .int .i64 n.from', .int .i64 n.till] 24)) := Below.alloc (Below.refl _ w) (Nat.le_refl _) _
    have HST := Lib.hid (show RoS w w.heap.size L B n b cap (w.alloc (.cells #[.int .i64 n.kind, .string n.text, .slice b n.kids.length cap, .int .i64 n.from', .int .i64 n.till] 24)) from
      ⟨heap_alloc_new _ _, LnR_keep (Nat.le_refl _) (Nat.le_refl _) (fun k _ hk => hba.block k (by omega)) hrow, hmk.keep (Nat.le_refl _) (Nat.le_refl _) (fun k _ hk => hba.block k (by omega)), hba, Nat.le_refl _, hB⟩)
    clear hrow hmk ih hba
    go_enter Tryz.func24, Tryz.ntmps24
    go_upto_region 1 with fail
    generalize World.alloc w _ = w1 at *
    generalize hp : w.heap.size = p at HST
    have HP := Lib.hid hp
    clear hp
    obtain ⟨d0, d1, d2, d3, d4, g0, g1, g2, g3, g4⟩ := NdBox.facts HST.out.box
    obtain ⟨g, off, b1, c1, b2, c2, rfl, hgB, x0, x1, x2, x3, x4, y0, y1, y2, y3, y4⟩ := HST.out.mark.cells
    have hgw : g < w1.heap.size := Nat.lt_of_lt_of_le hgB (Nat.le_trans hB HST.out.bel.size)
    go_wp2_with fail
    have HS7 := Lib.hid (show ndSize mk7 ≤ 4194304 by rw [ndSize_eq]; show 1 + ndSizes [] ≤ _; rw [ndSizes]; omega)
    refine (samenode_any mk7 _ _ w1 L B (mk7_v _ _ _ _ _) (mk7_v _ _ _ _ _) (Nat.le_trans hB HST.out.bel.size) HS7.out).mono ?_
    rintro e w2 ⟨rfl, hb2⟩
    have HST2 := Lib.hid (HST.out.bel' hb2)
    clear d0 d1 d2 d3 d4 g0 g1 g2 g3 g4 x0 x1 x2 x3 x4 y0 y1 y2 y3 y4 hgw hb2 HST
    obtain ⟨d0, d1, d2, d3, d4, g0, g1, g2, g3, g4⟩ := NdBox.facts HST2.out.box
    obtain ⟨g', off', b3, c3, b4, c4, hgo, hgB', x0, x1, x2, x3, x4, y0, y1, y2, y3, y4⟩ := HST2.out.mark.cells
    obtain ⟨rfl, rfl⟩ : g = g' ∧ off = off' := by simpa using hgo
    have hgw : g < w2.heap.size := Nat.lt_of_lt_of_le hgB (Nat.le_trans hB HST2.out.bel.size)
    clear hgo
    go_wp2_with fail
    refine (samenode_any mk7 _ _ w2 L B (mk7_v _ _ _ _ _) (mk7_v _ _ _ _ _) (Nat.le_trans hB HST2.out.bel.size) HS7.out).mono ?_
    rintro e w3 ⟨rfl, hb3⟩
    have HST3 := Lib.hid (HST2.out.bel' hb3)
    clear d0 d1 d2 d3 d4 g0 g1 g2 g3 g4 x0 x1 x2 x3 x4 y0 y1 y2 y3 y4 hgw hb3 HST2
    go_wp2_with fail
    go_loopw [4] (fun i wr => ∃ k : Nat, k ≤ n.kids.length ∧ i = .int .i64 k ∧ RoS w p L B n (some ⟨g, off, none⟩) cap wr) (fun i _ => n.kids.length - (intOf i).toNat)
    case atStart => exact ⟨0, Nat.zero_le _, rfl, HST3.out⟩
    case round =>
      clear HST3
      obtain ⟨k, hk, rfl, hst⟩ := hrel
      have HST := Lib.hid hst
      obtain ⟨d0, d1, d2, d3, d4, g0, g1, g2, g3, g4⟩ := NdBox.facts hst.box
      by_cases hlt : k < n.kids.length
      · obtain ⟨g', off', b', cap', hgo, hgB2, c0, c1, c2, c3, c4, hkv⟩ := LnR_cells hst.row k hlt
        obtain ⟨rfl, rfl⟩ : g = g' ∧ off = off' := by simpa using hgo
        have hcall := HIH.out wr k hlt _ hkv (Nat.le_trans hst.hB hst.bel.size)
        generalize hkid : n.kids[k] = x at *
        have HCALL := Lib.hid hcall
        clear hst hkid hkv hcall hgo
        go_wp2_with (go_at_call 24; refine HCALL.out.mono ?_; rintro e w2 ⟨rfl, hb2⟩)
        go_roundw
        case rel => exact ⟨k + 1, hlt, by go_num, HST.out.bel' hb2⟩
        case measure => simp [intOf]; omega
      · obtain rfl : k = n.kids.length := by omega
        go_wp2_with fail
        go_ret
        exact ⟨rfl, HST.out.bel⟩
/-- kept as it was lent. -/
theorem kept_any (n : Nd) (v u : Value) (w : World) (L B : Nat) (hv : LnV w L B n v) (hu : NdV w L B n u) (hB : B ≤ w.heap.size) (hsz : ndSize n ≤ 4194304) :
    Calls Tryz.prog 12 #[v, u] w fun e w' => e = .returned (.bool true) ∧ Below w.heap.size w w' := by
  have HV := Lib.hid hv
  have HU := Lib.hid hu
  obtain ⟨b, cap, rfl, _⟩ := hv
  obtain ⟨b2, cap2, rfl, _⟩ := hu
  unfold ndCells at *
  go_enter Tryz.func12, Tryz.ntmps12
  go_upto_region 1 with fail
  have hba : Below w.heap.size w ((w.alloc (.cells #[.int .i64 n.kind, .string n.text, .slice b n.kids.length cap, .int .i64 n.from', .int .i64 n.till] 24)).alloc (.cells #[.int .i64 n.kind, .string n.text, .slice b2 n.kids.length cap2, .int .i64 n.from', .int .i64 n.till] 24)) := (Below.alloc (Below.refl _ w) (Nat.le_refl _) _).alloc (by simp) _
  have hbx : NdBox ((w.alloc (.cells #[.int .i64 n.kind, .string n.text, .slice b n.kids.length cap, .int .i64 n.from', .int .i64 n.till] 24)).alloc (.cells #[.int .i64 n.kind, .string n.text, .slice b2 n.kids.length cap2, .int .i64 n.from', .int .i64 n.till] 24)) w.heap.size n.kind n.text b n.kids.length cap n.from' n.till := (Below.heap_alloc _ _ _ (by simp)).trans (heap_alloc_new _ _)
  have hb2x := heap_alloc_new (w.alloc (.cells #[.int .i64 n.kind, .string n.text, .slice b n.kids.length cap, .int .i64 n.from', .int .i64 n.till] 24)) (.cells #[.int .i64 n.kind, .string n.text, .slice b2 n.kids.length cap2, .int .i64 n.from', .int .i64 n.till] 24)
  rw [World.size_alloc] at hb2x
  have hbz : NdBox ((w.alloc (.cells #[.int .i64 n.kind, .string n.text, .slice b n.kids.length cap, .int .i64 n.from', .int .i64 n.till] 24)).alloc (.cells #[.int .i64 n.kind, .string n.text, .slice b2 n.kids.length cap2, .int .i64 n.from', .int .i64 n.till] 24)) (w.heap.size + 1) n.kind n.text b2 n.kids.length cap2 n.from' n.till := hb2x
  generalize World.alloc (World.alloc w _) _ = w1 at *
  clear hb2x
  have HB := Lib.hid hba
  have HX := Lib.hid hbx
  obtain ⟨d0, d1, d2, d3, d4, g0, g1, g2, g3, g4⟩ := NdBox.facts hbx
  obtain ⟨x0, x1, x2, x3, x4, y0, y1, y2, y3, y4⟩ := NdBox.facts hbz
  have HN := Lib.hid ((samenode_any n _ _ w1 L B (NdV_bel HV.out.v (hba.mono hB)) (NdV_bel HU.out (hba.mono hB)) (Nat.le_trans hB hba.size) hsz))
  clear hba hbx hbz
  go_wp2_with fail
  refine HN.out.mono ?_
  rintro e w2 ⟨rfl, hb2⟩
  have HX2 := Lib.hid (HX.out.bel hb2 HX.out.lt)
  have HB2 := Lib.hid (bel_next HB.out hb2)
  clear hb2 d0 d1 d2 d3 d4 g0 g1 g2 g3 g4 x0 x1 x2 x3 x4 y0 y1 y2 y3 y4 HX HN
  obtain ⟨d0, d1, d2, d3, d4, g0, g1, g2, g3, g4⟩ := NdBox.facts HX2.out
  have HN := Lib.hid ((room_any n _ w2 L B (HV.out.bel (HB2.out.mono hB)) (Nat.le_trans hB HB2.out.size) hsz))
  go_wp2_with fail
  refine HN.out.mono ?_
  rintro e w3 ⟨rfl, hb3⟩
  have HB3 := Lib.hid (bel_next HB2.out hb3)
  clear hb3
  go_wp2_with fail
  go_ret
  exact ⟨rfl, HB3.out⟩
/-- at most so deep: the law's own question. -/
theorem shallowNode_any (n : Nd) (v : Value) (w : World) (L B : Nat) (hv : NdV w L B n v) (hB : B ≤ w.heap.size) (hsz : ndSize n ≤ 4194304) :
    Calls Tryz.prog 7 #[v] w fun e w' => e = .returned (.bool (shal 16384 n)) ∧ Below w.heap.size w w' := by
  have HV := Lib.hid hv
  obtain ⟨b, cap, rfl, _⟩ := hv
  unfold ndCells at *
  go_enter Tryz.func7, Tryz.ntmps7
  go_upto_region 1 with fail
  have hba : Below w.heap.size w (w.alloc (.cells #[.int .i64 n.kind, .string n.text, .slice b n.kids.length cap, .int .i64 n.from', .int .i64 n.till] 24)) := Below.alloc (Below.refl _ w) (Nat.le_refl _) _
  have hbx : NdBox (w.alloc (.cells #[.int .i64 n.kind, .string n.text, .slice b n.kids.length cap, .int .i64 n.from', .int .i64 n.till] 24)) w.heap.size n.kind n.text b n.kids.length cap n.from' n.till := heap_alloc_new _ _
  generalize World.alloc w _ = w1 at *
  have HB := Lib.hid hba
  obtain ⟨d0, d1, d2, d3, d4, g0, g1, g2, g3, g4⟩ := NdBox.facts hbx
  have HN := Lib.hid ((shallow_any n 16384 16384 _ w1 L B rfl (Nat.le_refl _) (NdV_bel HV.out (hba.mono hB)) (Nat.le_trans hB hba.size) hsz))
  clear hba hbx
  go_wp2_with fail
  refine HN.out.mono ?_
  rintro e w2 ⟨rfl, hb2⟩
  have HB2 := Lib.hid (bel_next HB.out hb2)
  clear hb2
  go_wp2_with fail
  go_ret
  exact ⟨rfl, HB2.out⟩
end Go.Proofs.YteejjkfmmhegmaaGreatDoor
