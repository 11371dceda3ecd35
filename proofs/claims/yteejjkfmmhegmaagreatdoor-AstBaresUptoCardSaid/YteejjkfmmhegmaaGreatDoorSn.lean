/- Contract of SameNode on two places that hold the same tree; of roomNode. Condition: at most 2^22 nodes. -/
import Derived.Test.YteejjkfmmhegmaaGreatDoorSm
namespace Go.Proofs.YteejjkfmmhegmaaGreatDoor
open Go.RowKit

set_option maxRecDepth 20000 in
set_option maxHeartbeats 4000000 in
theorem samenode_any (a : Nd) : ∀ (v u : Value) (w : World) (L B : Nat), NdV w L B a v → NdV w L B a u → B ≤ w.heap.size → ndSize a ≤ 4194304 →
    Calls Tryz.prog 16 #[v, u] w fun e w' => e = .returned (.bool true) ∧ Below w.heap.size w w' := by
  induction a using Nd.ind with
  | h a ih =>
    intro v u w L B hv hu hB hsz
    obtain ⟨b, cap, rfl, hcap, hrow⟩ := hv
    obtain ⟨d, cap2, rfl, hcap2, hrow2⟩ := hu
    unfold ndCells
    have hkc := kid_count a
    have HIH := Lib.hid (fun (W : World) (j : Nat) (hj : j < a.kids.length) (v u : Value) (hu : NdV W L B a.kids[j] v) (hy : NdV W L B a.kids[j] u) (hW : B ≤ W.heap.size) => ih _ (List.getElem_mem hj) v u W L B hu hy hW (by have := kid_size hj; omega))
    have HST := Lib.hid (NSt2.new (cap := cap) (cap2 := cap2) hrow hrow2 hB)
    clear hrow hrow2 ih
    go_enter Tryz.func16, Tryz.ntmps16
    go_upto_region 1 with fail
    generalize World.alloc (World.alloc w _) _ = w1 at *
    generalize hp : w.heap.size = p at HST
    generalize hq : p + 1 = q at HST
    have HP := Lib.hid hp
    have HQ := Lib.hid hq
    clear hp hq
    obtain ⟨d0, d1, d2, d3, d4, g0, g1, g2, g3, g4⟩ := NdBox.facts HST.out.box
    obtain ⟨x0, x1, x2, x3, x4, y0, y1, y2, y3, y4⟩ := NdBox.facts HST.out.box2
    go_wp2_with fail
    clear d0 d1 d2 d3 d4 g0 g1 g2 g3 g4 x0 x1 x2 x3 x4 y0 y1 y2 y3 y4
    go_loopw [5] (fun i wr => ∃ k : Nat, k ≤ a.kids.length ∧ i = .int .i64 k ∧ NSt2 w p q L B a b cap a d cap2 wr) (fun i _ => a.kids.length - (intOf i).toNat)
    case atStart => exact ⟨0, Nat.zero_le _, rfl, HST.out⟩
    case round =>
      clear HST
      obtain ⟨k, hkl, rfl, hst⟩ := hrel
      have HST := Lib.hid hst
      obtain ⟨d0, d1, d2, d3, d4, g0, g1, g2, g3, g4⟩ := NdBox.facts hst.box
      obtain ⟨x0, x1, x2, x3, x4, y0, y1, y2, y3, y4⟩ := NdBox.facts hst.box2
      by_cases hlt : k < a.kids.length
      · obtain ⟨g, off, b', cap', rfl, hgB, c0, c1, c2, c3, c4, hkv⟩ := RowP_cells hst.row k hlt
        obtain ⟨g', off', d', cap2', rfl, hgB', z0, z1, z2, z3, z4, hkv2⟩ := RowP_cells hst.row2 k hlt
        have hcall := HIH.out wr.drew k hlt _ _ (NdV_bel hkv (Below.drew (Below.refl _ _))) (NdV_bel hkv2 (Below.drew (Below.refl _ _))) (Nat.le_trans hst.hB hst.bel.size)
        generalize a.kids[k] = x at *
        have hdr : Below wr.heap.size wr wr.drew := Below.drew (Below.refl _ _)
        have HCALL := Lib.hid hcall
        clear hst hkv hkv2 hcall
        go_upto_region 6 with fail
        go_still_tail 10, (by kernel_rfl)
        change wpList _ _ _ _ _ wr.drew
        go_wp2_with (go_at_call 16; refine HCALL.out.mono ?_; rintro e w2 ⟨rfl, hb2⟩)
        go_roundw
        case rel => exact ⟨k + 1, hlt, by go_num, HST.out.bel' (hdr.trans hb2)⟩
        case measure => simp [intOf]; omega
      · obtain rfl : k = a.kids.length := by omega
        go_wp2_with fail
        go_ret
        exact ⟨rfl, HST.out.bel⟩
end Go.Proofs.YteejjkfmmhegmaaGreatDoor
