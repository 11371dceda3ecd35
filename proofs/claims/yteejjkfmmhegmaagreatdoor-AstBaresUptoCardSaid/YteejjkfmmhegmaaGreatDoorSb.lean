/- AstBares' own function: it answers true. Condition: at most 2^22 nodes. -/
import Derived.Test.YteejjkfmmhegmaaGreatDoorSp
namespace Go.Proofs.YteejjkfmmhegmaaGreatDoor
open Go.RowKit

theorem Bx.bel {W W' : World} {p : Nat} {n : Nd} {b : Option Addr} {cap : Nat} (h : Bx W p n b cap) (hb : Below W.heap.size W W') : Bx W' p n b cap := NdBox.bel h hb (NdBox.lt h)
/-- a node's value, its rows from block L on. -/
def IsF (W : World) (L : Nat) (n : Nd) (v : Value) : Prop := NdV W L W.heap.size n v
theorem IsF.bel {W W' : World} {L : Nat} {n : Nd} {v : Value} (h : IsF W L n v) (hb : Below W.heap.size W W') : IsF W' L n v := by
  obtain ⟨b, cap, h1, h2, h3⟩ := h
  exact ⟨b, cap, h1, h2, RowP_keep (Nat.le_refl _) hb.size (fun k _ hk => hb.block k hk) h3⟩
theorem IsF.n {W : World} {L : Nat} {n : Nd} {v : Value} (h : IsF W L n v) : IsN W n v := NdV.wide h (Nat.le_refl _)
theorem ibare (n : Nd) (v : Value) (W : World) (h : IsN W n v) (hs : ndSize n ≤ 4194304) :
    Calls Tryz.prog 14 #[v] W fun e w' => ∃ b cap, e = .returned (.agg #[.int .i64 (bareT n).kind, .string (bareT n).text, .slice b (bareT n).kids.length cap, .int .i64 (bareT n).from', .int .i64 (bareT n).till]) ∧ RowE w' W.heap.size w'.heap.size (bareT n) b cap ∧ Below W.heap.size W w' :=
  (Bare_any n v W 0 _ h (Nat.le_refl _) hs).mono fun e w' ⟨u, he, hu, hb⟩ => by
    obtain ⟨b, cap, rfl, h2⟩ := hu
    exact ⟨b, cap, he, h2, hb⟩
theorem irbare (n : Nd) (v : Value) (W : World) (h : IsN W n v) (hs : ndSize n ≤ 4194304) :
    Calls Tryz.prog 15 #[v] W fun e w' => ∃ b cap, e = .returned (.agg #[.int .i64 (bareT n).kind, .string (bareT n).text, .slice b (bareT n).kids.length cap, .int .i64 (bareT n).from', .int .i64 (bareT n).till]) ∧ RowE w' W.heap.size w'.heap.size (bareT n) b cap ∧ Below W.heap.size W w' :=
  (rBare_any n v W 0 _ h (Nat.le_refl _) hs).mono fun e w' ⟨u, he, hu, hb⟩ => by
    obtain ⟨b, cap, rfl, h2⟩ := hu
    exact ⟨b, cap, he, h2, hb⟩
theorem RowE.isF {W : World} {L : Nat} {n : Nd} {b : Option Addr} {cap : Nat} (h : RowE W L W.heap.size n b cap) : IsF W L n (.agg #[.int .i64 n.kind, .string n.text, .slice b n.kids.length cap, .int .i64 n.from', .int .i64 n.till]) := ⟨b, cap, rfl, h.1, h.2.1⟩
theorem isamenode (n : Nd) (v u : Value) (W : World) (h : IsN W n v) (k : IsN W n u) (hs : ndSize n ≤ 4194304) :
    Calls Tryz.prog 16 #[v, u] W fun e w' => e = .returned (.bool true) ∧ Below W.heap.size W w' := samenode_any n v u W 0 _ h k (Nat.le_refl _) hs
/-- a tree in a box, which may be written. -/
theorem box_shc {w : World} {L : Nat} {n : Nd} {b : Option Addr} {cap : Nat} (h : RowE w L w.heap.size n b cap) (hL : L ≤ w.heap.size) : ShC (w.alloc (.cells #[.int .i64 n.kind, .string n.text, .slice b n.kids.length cap, .int .i64 n.from', .int .i64 n.till] 24)) L (w.heap.size + 1) n w.heap.size 0 := by
  have hb := alloc_bel w (.cells #[.int .i64 n.kind, .string n.text, .slice b n.kids.length cap, .int .i64 n.from', .int .i64 n.till] 24)
  have hx := Bx.new w n b cap
  obtain ⟨d0, d1, d2, d3, d4, f0, _⟩ := NdBox.facts hx
  rw [ShC_eq]
  exact ⟨hL, Nat.lt_succ_self _, rfl, f0, ⟨_, d0⟩, b, cap, d2, ShR_keep (Nat.le_refl _) (Nat.le_succ _) (fun k _ hk => hb.block k hk) h.2.2⟩
theorem bareT_size (n : Nd) : ndSize (bareT n) ≤ ndSize n := by
  have h0 : ∀ m : Nd, ndSize (bareNd m) ≤ ndSize m := by
    intro m
    induction m using Nd.ind with
    | h m ih =>
      rw [bareNd_eq]
      split
      · cases hk : m.kids with
        | nil => rw [bareFst, Nd.zero, ndSize, ndSizes, ndSize_eq]; omega
        | cons k ks =>
          rw [bareFst]
          have h1 := ih k (by rw [hk]; exact .head _)
          have h2 := ndSizes_mem (show k ∈ m.kids by rw [hk]; exact .head _)
          rw [ndSize_eq m]
          omega
      · rw [ndSize, ndSize_eq m]
        have key : ∀ l : List Nd, (∀ x ∈ l, ndSize (bareNd x) ≤ ndSize x) → ndSizes (l.map bareNd) ≤ ndSizes l := by
          intro l
          induction l with
          | nil => intro _; exact Nat.le_refl _
          | cons x l ihl =>
            intro h
            rw [List.map_cons, ndSizes, ndSizes]
            have h1 := h x (.head _)
            have h2 := ihl fun y hy => h y (.tail _ hy)
            omega
        have := key m.kids ih
        omega
  unfold bareT
  split
  · exact h0 n
  · rw [Nd.zero, ndSize, ndSizes, ndSize_eq]; omega
theorem SpM.bel {L B B0 : Nat} {w w' : World} (h : SpM L B w w') (h0 : B0 ≤ L) : Below B0 w w' := ⟨h.os, h.tape, h.output, Nat.le_of_eq h.size.symm, fun k hk => h.block k (.inl (by omega))⟩
theorem IsF.spoil {L B : Nat} {W W' : World} {n : Nd} {v : Value} (h : IsF W B n v) (hm : SpM L B W W') : IsF W' B n v := by
  obtain ⟨b, cap, h1, h2, h3⟩ := h
  exact ⟨b, cap, h1, h2, RowP_keep (Nat.le_refl _) (Nat.le_of_eq hm.size.symm) (fun k hk _ => hm.block k (.inr hk)) h3⟩
set_option maxRecDepth 20000 in
set_option maxHeartbeats 4000000 in
theorem bares_any (a : Nd) (v : Value) (w : World) (hv : IsN w a v) (ha : ndSize a ≤ 4194304) :
    Calls Tryz.prog 4 #[v] w fun e w' => e = .returned (.bool true) ∧ Below w.heap.size w w' := by
  have HV := Lib.hid hv
  have HSA := Lib.hid ha
  have HST := Lib.hid (Nat.le_trans (bareT_size a) ha)
  obtain ⟨b1, cap1, rfl, _⟩ := hv
  clear ha
  unfold ndCells at *
  have hb := alloc_bel w (.cells #[.int .i64 a.kind, .string a.text, .slice b1 a.kids.length cap1, .int .i64 a.from', .int .i64 a.till] 24)
  have hx1 := Bx.new w a b1 cap1
  go_enter Tryz.func4, Tryz.ntmps4
  go_upto_region 1 with fail
  generalize World.alloc w _ = w1 at *
  have HX1 := Lib.hid hx1
  have HV1 := Lib.hid (HV.out.bel hb)
  have HB := Lib.hid hb
  clear hb hx1
  have hb : Below w1.heap.size w1 w1 := Below.refl _ _
  obtain ⟨a0, a1, a2, a3, a4⟩ := Bx.f HX1.out hb
  have HS1 := Lib.hid (ishallow a _ w1 HV1.out HSA.out)
  go_wp2_with fail
  refine HS1.out.mono ?_
  rintro e w3 ⟨rfl, hb2⟩
  replace hb := bel_next hb hb2
  clear a0 a1 a2 a3 a4 HS1 hb2
  obtain ⟨a0, a1, a2, a3, a4⟩ := Bx.f HX1.out hb
  cases hs1 : shal 16384 a with
  | false =>
    clear hs1
    go_wp2_with fail
    go_ret
    exact ⟨rfl, bel_next HB.out hb⟩
  | true =>
    clear hs1
    -- lent
    have HL1 := Lib.hid (ilend a _ w3 (HV1.out.bel hb) HSA.out)
    go_upto_region 4 with (go_at_call 8; refine HL1.out.mono ?_; rintro e w4 ⟨b5, cap5, rfl, hl5, hb4⟩)
    have hx5 := Bx.new w4 a b5 cap5
    have hal := alloc_bel w4 (.cells #[.int .i64 a.kind, .string a.text, .slice b5 a.kids.length cap5, .int .i64 a.from', .int .i64 a.till] 24)
    have HL5 := Lib.hid (hl5.bel hal)
    replace hb := bel_next (bel_next hb hb4) hal
    generalize World.alloc w4 _ = w5 at *
    generalize w4.heap.size = r5 at *
    have HX5 := Lib.hid hx5
    have HB5 := Lib.hid hb
    clear a0 a1 a2 a3 a4 HL1 hb4 hl5 hal hx5 hb
    have hb : Below w5.heap.size w5 w5 := Below.refl _ _
    -- the first answer
    obtain ⟨a0, a1, a2, a3, a4⟩ := Bx.f HX5.out hb
    have HA1 := Lib.hid (ibare a _ w5 HL5.out.n HSA.out)
    go_upto_region 5 with (go_at_call 14; refine HA1.out.mono ?_; rintro e w6 ⟨b6, cap6, rfl, hr6, hb6⟩)
    generalize hz : bareT a = z at *
    have HZ := Lib.hid hz
    have hx6 := Bx.new w6 z b6 cap6
    have hal := alloc_bel w6 (.cells #[.int .i64 z.kind, .string z.text, .slice b6 z.kids.length cap6, .int .i64 z.from', .int .i64 z.till] 24)
    have HSH := Lib.hid (box_shc hr6 hb6.size)
    have HI6 := Lib.hid (hr6.isF.bel hal)
    have hb67 := bel_next hb6 hal
    have hs7 : (w6.alloc (.cells #[.int .i64 z.kind, .string z.text, .slice b6 z.kids.length cap6, .int .i64 z.from', .int .i64 z.till] 24)).heap.size = w6.heap.size + 1 := by simp
    have hle6 := hb6.size
    generalize World.alloc w6 _ = w7 at *
    generalize w6.heap.size = r6 at *
    have HX6 := Lib.hid hx6
    have HB7 := Lib.hid hb67
    have HS7 := Lib.hid hs7
    have HX57 := Lib.hid (Bx.bel HX5.out hb67)
    have HL57 := Lib.hid (HL5.out.bel hb67)
    clear a0 a1 a2 a3 a4 HA1 hb6 hr6 hal hx6 hb hb67 hz hs7
    have hb : Below w7.heap.size w7 w7 := Below.refl _ _
    -- the second answer
    obtain ⟨a0, a1, a2, a3, a4⟩ := Bx.f HX57.out hb
    have HA2 := Lib.hid (ibare a _ w7 HL57.out.n HSA.out)
    rw [HZ.out] at HA2
    go_upto_region 6 with (go_at_call 14; refine HA2.out.mono ?_; rintro e w8 ⟨b8, cap8, rfl, hr8, hb8⟩)
    have hx8 := Bx.new w8 z b8 cap8
    have hal := alloc_bel w8 (.cells #[.int .i64 z.kind, .string z.text, .slice b8 z.kids.length cap8, .int .i64 z.from', .int .i64 z.till] 24)
    have HI8 := Lib.hid (hr8.isF.bel hal)
    have hb89 := bel_next hb8 hal
    have hle8 := hb8.size
    generalize World.alloc w8 _ = w9 at *
    generalize w8.heap.size = r8 at *
    have HX8 := Lib.hid hx8
    have HB9 := Lib.hid hb89
    clear a0 a1 a2 a3 a4 HA2 hb8 hr8 hal hx8 hb hb89
    -- the reference's
    have hb19 := bel_next (bel_next HB5.out HB7.out) HB9.out
    obtain ⟨a0, a1, a2, a3, a4⟩ := Bx.f HX1.out hb19
    have HA3 := Lib.hid (irbare a _ w9 (HV1.out.bel hb19) HSA.out)
    rw [HZ.out] at HA3
    go_upto_region 7 with (go_at_call 15; refine HA3.out.mono ?_; rintro e w10 ⟨b10, cap10, rfl, hr10, hb10⟩)
    have hx10 := Bx.new w10 z b10 cap10
    have hal := alloc_bel w10 (.cells #[.int .i64 z.kind, .string z.text, .slice b10 z.kids.length cap10, .int .i64 z.from', .int .i64 z.till] 24)
    have HI10 := Lib.hid (hr10.isF.bel hal)
    have hb1011 := bel_next hb10 hal
    have hle10 := hb10.size
    generalize World.alloc w10 _ = w11 at *
    generalize w10.heap.size = r10 at *
    have HB11 := Lib.hid (bel_next hb19 hb1011)
    have HB79 := Lib.hid (bel_next HB9.out hb1011)
    have HF := Lib.hid (fun (W : World) (hb : Below w11.heap.size w11 W) => (⟨Bx.f HX1.out (bel_next HB11.out hb), Bx.f HX57.out (bel_next HB79.out hb), Bx.f HX6.out (bel_next HB79.out hb), Bx.f HX8.out (bel_next hb1011 hb), hx10.f hb⟩ :
      Fx W w.heap.size a b1 cap1 ∧ Fx W r5 a b5 cap5 ∧ Fx W r6 z b6 cap6 ∧ Fx W r8 z b8 cap8 ∧ Fx W r10 z b10 cap10))
    have HX8b := Lib.hid (Bx.bel HX8.out hb1011)
    have HX10 := Lib.hid hx10
    have HI8b := Lib.hid (HI8.out.bel hb1011)
    clear a0 a1 a2 a3 a4 HA3 hb10 hr10 hal hx10 hb19 hb1011
    have hb : Below w11.heap.size w11 w11 := Below.refl _ _
    -- the comparisons
    obtain ⟨⟨a0, a1, a2, a3, a4⟩, ⟨b0, b01, b02, b3, b4⟩, ⟨c0, c1, c2, c3, c4⟩, ⟨d0, d1, d2, d3, d4⟩, ⟨e0, e1, e2, e3, e4⟩⟩ := HF.out _ hb
    have HG := Lib.hid (isamenode z _ _ w11 (HI6.out.bel HB79.out).n HI10.out.n HST.out)
    go_wp2_with fail
    refine HG.out.mono ?_
    rintro e w12 ⟨rfl, hb2⟩
    replace hb := bel_next hb hb2
    clear hb2 HG a0 a1 a2 a3 a4 b0 b01 b02 b3 b4 c0 c1 c2 c3 c4 d0 d1 d2 d3 d4 e0 e1 e2 e3 e4
    obtain ⟨⟨a0, a1, a2, a3, a4⟩, ⟨b0, b01, b02, b3, b4⟩, _⟩ := HF.out _ hb
    have HG := Lib.hid (ikept a _ _ w12 ((HL57.out.bel HB79.out).bel hb) ((HV1.out.bel HB11.out).bel hb) HSA.out)
    go_wp2_with fail
    refine HG.out.mono ?_
    rintro e w13 ⟨rfl, hb2⟩
    replace hb := bel_next hb hb2
    clear hb2 HG a0 a1 a2 a3 a4 b0 b01 b02 b3 b4
    -- the first answer is spoilt
    have hsz7 := HS7.out
    have h713 := bel_next HB79.out hb
    have HSP := Lib.hid (spoil_any z r6 0 w5.heap.size (r6 + 1) w13 (ShC_keep (Nat.le_refl _) (Nat.le_refl _) (fun k _ hk => h713.block k (by omega)) _ _ _ HSH.out) (by have := h713.size; omega) HST.out)
    go_wp2_with fail
    refine HSP.out.mono ?_
    rintro e w14 ⟨rfl, hsp⟩
    have HSM := Lib.hid hsp
    have HBF := Lib.hid (show Below w.heap.size w w14 from ((HB.out.trans (HB11.out.mono HB.out.size)).trans (hb.mono (by have := HB.out.size; have := HB11.out.size; omega))).trans (hsp.bel (by have := HB.out.size; have := HB5.out.size; omega)))
    rw [hsz7] at HI8b HI8
    have h9 : r6 + 1 ≤ w9.heap.size := by have := HB9.out.size; omega
    have HK8 := Lib.hid ((HI8b.out.bel hb).spoil hsp)
    have HK10 := Lib.hid (IsF.spoil (L := w5.heap.size) (B := r6 + 1) (show IsF w13 (r6 + 1) z _ from by
      obtain ⟨b, cap, h1, h2, h3⟩ := HI10.out.bel hb
      exact ⟨b, cap, h1, h2, RowP_keep h9 (Nat.le_refl _) (fun _ _ _ => rfl) h3⟩) hsp)
    have hx8c : Bx w14 r8 z b8 cap8 := (hsp.block r8 (.inr (by omega))).trans (Bx.bel HX8b.out hb)
    have hx10c : Bx w14 r10 z b10 cap10 := (hsp.block r10 (.inr (by omega))).trans (Bx.bel HX10.out hb)
    obtain ⟨d0, d1, d2, d3, d4⟩ := hx8c.f (Below.refl _ w14)
    obtain ⟨e0, e1, e2, e3, e4⟩ := hx10c.f (Below.refl _ w14)
    have HG := Lib.hid (isamenode z _ _ w14 HK8.out.n HK10.out.n HST.out)
    clear hsp hb h713 hx8c hx10c hsz7 h9
    go_wp2_with fail
    refine HG.out.mono ?_
    rintro e w15 ⟨rfl, hb2⟩
    have HB15 := Lib.hid (bel_next HBF.out hb2)
    clear hb2 d0 d1 d2 d3 d4 e0 e1 e2 e3 e4 HG
    go_wp2_with fail
    refine (awake_any _).mono ?_
    rintro e w16 ⟨rfl, hb2⟩
    have HB16 := Lib.hid (bel_next HB15.out hb2)
    clear hb2
    go_wp2_with fail
    go_ret
    exact ⟨rfl, HB16.out⟩
end Go.Proofs.YteejjkfmmhegmaaGreatDoor
