/- Contract of SpoilNode: it writes over kinds alone, in blocks from L up to B. Condition: at most 2^22 nodes. -/
import Derived.Test.YteejjkfmmhegmaaGreatDoorSa
namespace Go.Proofs.YteejjkfmmhegmaaGreatDoor
open Go.RowKit

/-- kinds alone are written, in blocks from L up to B. -/
structure SpM (L B : Nat) (w w' : World) : Prop where
  os : w'.os = w.os
  tape : w'.tape = w.tape
  output : w'.output = w.output
  size : w'.heap.size = w.heap.size
  block : ∀ k, (k < L ∨ B ≤ k) → w'.heap[k]? = w.heap[k]?
  cell : ∀ k o, o % 5 ≠ 0 → w'.cell? ⟨k, o, none⟩ = w.cell? ⟨k, o, none⟩
  kind : ∀ k o z, w.cell? ⟨k, o, none⟩ = some (.int .i64 z) → ∃ y, w'.cell? ⟨k, o, none⟩ = some (.int .i64 y)
  frozen : ∀ k o, w'.frozen? ⟨k, o, none⟩ = w.frozen? ⟨k, o, none⟩
theorem SpM.refl (L B : Nat) (w : World) : SpM L B w w := ⟨rfl, rfl, rfl, rfl, fun _ _ => rfl, fun _ _ _ => rfl, fun _ _ z h => ⟨z, h⟩, fun _ _ => rfl⟩
theorem SpM.trans {L B : Nat} {a b c : World} (h : SpM L B a b) (k : SpM L B b c) : SpM L B a c :=
  ⟨k.os.trans h.os, k.tape.trans h.tape, k.output.trans h.output, k.size.trans h.size, fun i hi => (k.block i hi).trans (h.block i hi), fun i o ho => (k.cell i o ho).trans (h.cell i o ho),
    fun i o z hz => by
      obtain ⟨y, hy⟩ := h.kind i o z hz
      exact k.kind i o y hy,
    fun i o => (k.frozen i o).trans (h.frozen i o)⟩
theorem SpM.set {L B g o : Nat} (w : World) {z : Int} (h1 : L ≤ g) (h2 : g < B) (ho : o % 5 = 0) (hc : w.cell? ⟨g, o, none⟩ = some (.int .i64 z)) (y : Int) : SpM L B w (w.setCell ⟨g, o, none⟩ (.int .i64 y)) := by
  refine ⟨rfl, rfl, rfl, by simp [World.setCell], fun k hk => Below.heap_setCell _ _ _ _ (by show k ≠ g; omega), fun k i hi => World.cell?_setCell_other _ _ _ _ (fun e => ?_), fun k i x hx => ?_, fun k i => by simp⟩
  · cases e
    exact hi ho
  · by_cases e : (⟨g, o, none⟩ : Addr) = ⟨k, i, none⟩
    · cases e
      exact ⟨y, World.cell?_setCell_same _ _ _ hc⟩
    · exact ⟨x, (World.cell?_setCell_other _ _ _ _ e).trans hx⟩
theorem ShC.spoil {L B : Nat} {w w' : World} (hm : SpM L B w w') (n : Nd) : ∀ g o, ShC w L B n g o → ShC w' L B n g o := by
  induction n using Nd.ind with
  | h n ih =>
    intro g o h
    rw [ShC_eq] at h ⊢
    obtain ⟨h1, h2, h3, h4, ⟨z, h5⟩, b, cap, h6, hr⟩ := h
    exact ⟨h1, h2, h3, (hm.frozen g o).trans h4, hm.kind g o z h5, b, cap, (hm.cell g (o + 2) (by omega)).trans h6, ShR_of fun j hj => by
      obtain ⟨g', off, ha, hn⟩ := ShR_get hr j hj
      exact ⟨g', off, ha, ih _ (List.getElem_mem hj) _ _ hn⟩⟩
theorem ShR.spoil {L B : Nat} {w w' : World} (hm : SpM L B w w') {ks : List Nd} {a : Option Addr} {i : Nat} (h : ShR w L B ks a i) : ShR w' L B ks a i :=
  ShR_of fun j hj => by
    obtain ⟨g, off, ha, hn⟩ := ShR_get h j hj
    exact ⟨g, off, ha, ShC.spoil hm _ _ _ hn⟩
set_option maxRecDepth 20000 in
set_option maxHeartbeats 4000000 in
theorem spoil_any (n : Nd) : ∀ (g o L B : Nat) (w : World), ShC w L B n g o → B ≤ w.heap.size → ndSize n ≤ 4194304 →
    Calls Tryz.prog 17 #[.pointer (some ⟨g, o, none⟩)] w fun e w' => e = .returned (.tuple #[]) ∧ SpM L B w w' := by
  induction n using Nd.ind with
  | h n ih =>
    intro g o L B w hn hB hsz
    have HIH := Lib.hid (fun (W : World) (j : Nat) (hj : j < n.kids.length) (g o : Nat) (hu : ShC W L B n.kids[j] g o) (hW : B ≤ W.heap.size) => ih _ (List.getElem_mem hj) g o L B W hu hW (by have := kid_size hj; omega))
    have hkc := kid_count n
    have HN := Lib.hid hn
    rw [ShC_eq] at hn
    obtain ⟨h1, h2, h3, h4, ⟨z, h5⟩, b, cap, h6, hr⟩ := hn
    have hgw : g < w.heap.size := by omega
    have HS := Lib.hid (fun y => SpM.set w h1 h2 h3 h5 y)
    clear ih hr
    go_enter Tryz.func17, Tryz.ntmps17
    go_upto_region 1 with fail
    have HM := Lib.hid (HS.out (wrap64 (-9 - z)))
    generalize World.setCell w _ _ = w1 at *
    clear HS h4 h5 h6
    go_wp2_with fail
    go_loopw [2] (fun i wr => ∃ k : Nat, k ≤ n.kids.length ∧ i = .int .i64 k ∧ SpM L B w wr) (fun i _ => n.kids.length - (intOf i).toNat)
    case atStart => exact ⟨0, Nat.zero_le _, rfl, HM.out⟩
    case round =>
      clear HM
      obtain ⟨k, hk, rfl, hsp⟩ := hrel
      have HSP := Lib.hid hsp
      have hn2 := ShC.spoil hsp n g o HN.out
      rw [ShC_eq] at hn2
      obtain ⟨_, _, _, _, _, b2, cap2, z2, hr⟩ := hn2
      have hgr : g < wr.heap.size := by rw [hsp.size]; exact hgw
      have hBr : B ≤ wr.heap.size := by rw [hsp.size]; exact hB
      clear hsp
      by_cases hlt : k < n.kids.length
      · obtain ⟨g2, off, rfl, hkn⟩ := ShR_get hr k hlt
        rw [Nat.zero_add] at hkn
        have HC := Lib.hid (HIH.out wr k hlt _ _ hkn hBr)
        clear hkn hr
        go_wp2_with fail
        refine HC.out.mono ?_
        rintro e w2 ⟨rfl, hs2⟩
        have HS2 := Lib.hid (HSP.out.trans hs2)
        clear hs2
        go_wp2_with fail
        go_roundw
        case rel => exact ⟨k + 1, hlt, by go_num, HS2.out⟩
        case measure => simp [intOf]; omega
      · obtain rfl : k = n.kids.length := by omega
        clear hr
        go_wp2_with fail
        go_end0
        exact ⟨rfl, HSP.out⟩
end Go.Proofs.YteejjkfmmhegmaaGreatDoor
