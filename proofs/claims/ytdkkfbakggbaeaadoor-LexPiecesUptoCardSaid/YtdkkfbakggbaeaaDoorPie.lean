/- LexPieces' function answers true. Conditions: the library's tables; at most 2^24 bytes. -/
import Derived.Test.YtdkkfbakggbaeaaDoorLR
import Derived.Test.YtdkkfbakggbaeaaDoorLS
namespace Go.Proofs.YtdkkfbakggbaeaaDoor
open Go.RowKit

set_option maxRecDepth 20000 in
set_option maxHeartbeats 4000000 in
/-- a fault. -/
theorem pieces_bad (s : ByteArray) (at' goal : Int) (w : World) (hX : Lx w) (place code : Int) (hc : code ≠ 0) (h0 : 0 ≤ place) (h1 : place ≤ s.size)
    (hN : ∀ W, Lx W → Calls Tryd.prog 14 #[.string s, .int .i64 at', .int .i64 goal] W fun e w' => NxPost s W (.bad place code) e w') :
    Calls Tryd.prog 3 #[.string s, .int .i64 at', .int .i64 goal] w fun e w' => e = .returned (.bool true) ∧ Below w.heap.size w w' := by
  have hA := lawake_any w hX
  simp only [NxPost, Tk.val, Tk.cells, Tk.zero] at hN
  have HA := Lib.hid hA
  have HN := Lib.hid hN
  have HX := Lib.hid hX
  have bc : (code != 0) = true := by rw [bne_iff_ne]; exact hc
  clear hA hN hX hc
  go_enter Tryd.func3, Tryd.ntmps3
  go_upto_region 3 with (go_at_call 13; refine HA.out.mono ?_; rintro e w1 ⟨rfl, hb1⟩)
  go_upto_region 4 with (go_at_call 14; refine (HN.out _ (HX.out.bel hb1)).mono ?_; rintro e w2 ⟨rfl, hb2⟩)
  have hb := (hb1.trans (hb2.mono hb1.size)).alloc (Nat.le_trans hb1.size hb2.size) (.cells #[.int .i64 0, .string ⟨#[]⟩, .int .i64 0, .int .i64 0, .bool false] 24)
  have hk : TkAt (w2.alloc (.cells #[.int .i64 0, .string ⟨#[]⟩, .int .i64 0, .int .i64 0, .bool false] 24)) w2.heap.size ⟨0, ⟨#[]⟩, 0, 0, false⟩ := heap_alloc_new _ _
  generalize World.alloc w2 _ = w3 at *
  generalize w2.heap.size = g at *
  have HT := Lib.hid hk
  clear hk hb1 hb2
  obtain ⟨d0, d1, d2, d3, d4, g0, g1, g2, g3, g4⟩ := TkAt.facts HT.out
  go_wp2_with (go_at_call 15; refine (lnum_any _ _).mono ?_; rintro e w' ⟨rfl, rfl⟩)
  go_ret
  exact ⟨rfl, hb⟩
theorem CmsIn.len {s : ByteArray} {q : Nat} : ∀ (cs : List Cm) {p : Nat}, CmsIn s p q cs → p + cs.length ≤ q
  | [], _, h => h
  | c :: cs, p, h => by
    obtain ⟨f, t, _, _, h1, h2, _, h3⟩ := h
    have := CmsIn.len cs h3
    simp only [List.length_cons]
    omega
/-- the law under way: the token and the comments lie where they lay. -/
structure PiSt (w0 : World) (g : Nat) (s : ByteArray) (q n : Nat) (kind : Int) (line : Bool) (v : Value) (cs : List Cm) (w : World) : Prop where
  tok : TkAt w g ⟨kind, s.extract q (q + n), q, (q : Int) + (n : Int), line⟩
  own : OwnC w0.heap.size w v cs
  bel : Below w0.heap.size w0 w
  gg : w0.heap.size ≤ g
theorem PiSt.bel' {w0 w w' : World} {g : Nat} {s : ByteArray} {q n : Nat} {kind : Int} {line : Bool} {v : Value} {cs : List Cm} (h : PiSt w0 g s q n kind line v cs w) (hb : Below w.heap.size w w') : PiSt w0 g s q n kind line v cs w' :=
  ⟨h.tok.bel hb, h.own.bel hb, h.bel.trans (hb.mono h.bel.size), h.gg⟩
set_option maxRecDepth 20000 in
set_option maxHeartbeats 8000000 in
/-- a token. -/
theorem pieces_fine (s : ByteArray) (p : Nat) (goal : Int) (w : World) (hs : s.size ≤ 16777216) (hp : p ≤ s.size) (hX : Lx w) (kind : Int) (q n : Nat) (line : Bool) (cs : List Cm) (hO : nxt s p goal = .fine kind q n line cs) :
    Calls Tryd.prog 3 #[.string s, .int .i64 p, .int .i64 goal] w fun e w' => e = .returned (.bool true) ∧ Below w.heap.size w w' := by
  have hin := nxt_in s p goal hp
  rw [hO] at hin
  obtain ⟨hcm, hqn, hk0, hO2⟩ := hin
  have hpq := CmsIn.le cs hcm
  have hget := CmsIn.get cs hcm
  have hA := lawake_any w hX
  have hN1 := fun W h => Next_any s p goal W hs hp h p rfl
  have hN2 := fun W h z hz => Next_any s q goal W hs (by omega) h z hz
  rw [hO] at hN1
  rw [hO2] at hN2
  simp only [NxPost, Tk.val, Tk.cells] at hN1 hN2
  have HA := Lib.hid hA
  have HN1 := Lib.hid hN1
  have HN2 := Lib.hid hN2
  have HX := Lib.hid hX
  have HGET := Lib.hid hget
  have HCM := Lib.hid hcm
  clear hA hN1 hN2 hX hO hO2 hcm hget
  have HK0 := Lib.hid hk0
  clear hk0
  go_enter Tryd.func3, Tryd.ntmps3
  go_upto_region 3 with (go_at_call 13; refine HA.out.mono ?_; rintro e w1 ⟨rfl, hb1⟩)
  go_upto_region 4 with (go_at_call 14; refine (HN1.out _ (HX.out.bel hb1)).mono ?_; rintro e w2 ⟨v, rfl, hown, hb2⟩)
  have hb := (hb1.trans (hb2.mono hb1.size)).alloc (Nat.le_trans hb1.size hb2.size) (.cells #[.int .i64 kind, .string (s.extract q (q + n)), .int .i64 (q : Int), .int .i64 ((q : Int) + (n : Int)), .bool line] 24)
  have hk : TkAt (w2.alloc (.cells #[.int .i64 kind, .string (s.extract q (q + n)), .int .i64 (q : Int), .int .i64 ((q : Int) + (n : Int)), .bool line] 24)) w2.heap.size ⟨kind, s.extract q (q + n), q, (q : Int) + (n : Int), line⟩ := heap_alloc_new _ _
  have hown2 := (hown.mono hb1.size).bel (Below.alloc (Below.refl _ w2) (Nat.le_refl _) (.cells #[.int .i64 kind, .string (s.extract q (q + n)), .int .i64 (q : Int), .int .i64 ((q : Int) + (n : Int)), .bool line] 24))
  obtain ⟨vp, cap, rfl⟩ := hown.form
  have HGG := Lib.hid (Nat.le_trans hb1.size hb2.size)
  generalize World.alloc w2 _ = w3 at *
  generalize w2.heap.size = g at *
  have HT := Lib.hid hk
  have HB := Lib.hid hb
  have HOW := Lib.hid hown2
  clear hk hb1 hb2 hown hown2 hb
  obtain ⟨d0, d1, d2, d3, d4, g0, g1, g2, g3, g4⟩ := TkAt.facts HT.out
  have hd1 : decide ((q : Int) < (p : Int)) = false := decide_eq_false (by omega)
  have hd1' : decide (q < p) = false := decide_eq_false (by omega)
  have hd2 : decide ((q : Int) + (n : Int) < (q : Int)) = false := decide_eq_false (by omega)
  have hd3 : decide (((s.size : Nat) : Int) < (q : Int) + (n : Int)) = false := decide_eq_false (by omega)
  have hd3' : decide (s.size < q + n) = false := decide_eq_false (by omega)
  have hcn := CmsIn.len cs HCM.out
  go_upto_region 6 with (go_at_call 15; refine (lnum_any _ _).mono ?_; rintro e w' ⟨rfl, rfl⟩)
  go_cut [89] from 19 to 88 (fun v wx => v = .bool false ∧ Below w3.heap.size w3 wx)
  case first =>
    by_cases hkz : kind = 0
    · have bq : (((q : Nat) : Int) != ((s.size : Nat) : Int)) = false := by have := HK0.out hkz; rw [bne_eq_false_iff_eq]; omega
      subst hkz
      go_quiet (fail)
      go_wp2_with fail
      go_meet
      exact ⟨rfl, bel_drewN (Below.refl _ _) _⟩
    · have bk : (kind == 0) = false := by rw [beq_eq_false_iff_ne]; exact hkz
      clear hkz
      go_quiet (fail)
      go_wp2_with fail
      go_meet
      exact ⟨rfl, bel_drewN (Below.refl _ _) _⟩
  case rest =>
    obtain ⟨rfl, hbc⟩ := hcut
    clear d0 d1 d2 d3 d4 g0 g1 g2 g3 g4 hd1 hd1' hd2 hd3 hd3'
    have HS := Lib.hid (show PiSt w g s q n kind line (.slice vp cs.length cap) cs wc from ⟨HT.out.bel hbc, HOW.out.bel hbc, HB.out.trans (hbc.mono HB.out.size), HGG.out⟩)
    clear hbc HT HOW HB
    go_wp2_with fail
    have hs0 := HS.out
    clear HS
    go_loopw [6, 11, 12] (fun _ i _ wr => ∃ k : Nat, i = .int .i64 (k : Nat) ∧ k ≤ cs.length ∧ PiSt w g s q n kind line (.slice vp cs.length cap) cs wr) (fun _ i _ _ => cs.length - (intOf i).toNat)
    case atStart => exact ⟨0, rfl, Nat.zero_le _, hs0⟩
    case round =>
      clear hs0
      obtain ⟨k, rfl, hk, hst⟩ := hrel
      have HS := Lib.hid hst
      clear hst
      by_cases hlt : k < cs.length
      · obtain ⟨f, t, k1, k2, k3, k4, k5, k6, k7⟩ := HGET.out k hlt
        obtain ⟨gv, cap', hv, hgv, hgl, hcc, hcell⟩ := HS.out.own.slice (by intro h; rw [h] at hlt; simp at hlt)
        obtain ⟨rfl, _, rfl⟩ := Value.slice.inj hv
        obtain ⟨ck, hck⟩ : ∃ ck, cs[k].kind = ck := ⟨_, rfl⟩
        have u0 : wr.cell? ⟨gv, k * 4, none⟩ = some (.int .i64 ck) := by have := hcell k 0 hlt (by decide); simpa [cmCells, hck] using this
        have u1 : wr.cell? ⟨gv, k * 4 + 1, none⟩ = some (.string (s.extract f t)) := by have := hcell k 1 hlt (by decide); simpa [cmCells, k6] using this
        have u2 : wr.cell? ⟨gv, k * 4 + 2, none⟩ = some (.int .i64 (f : Int)) := by have := hcell k 2 hlt (by decide); simpa [cmCells, k1] using this
        have u3 : wr.cell? ⟨gv, k * 4 + 3, none⟩ = some (.int .i64 (t : Int)) := by have := hcell k 3 hlt (by decide); simpa [cmCells, k2] using this
        clear hck k1 k2 k6
        have HS2 := Lib.hid (HS.out)
        have hprev : ∀ j, j + 1 = k → ∃ u : Nat, u ≤ f ∧ wr.cell? ⟨gv, j * 4 + 3, none⟩ = some (.int .i64 (u : Int)) := fun j hj => by
          obtain ⟨u, m1, m2⟩ := k7 j hj
          have := hcell j 3 (by omega) (by decide)
          exact ⟨u, m2, by simpa [cmCells, m1] using this⟩
        have HPV := Lib.hid hprev
        clear k7 hcell hprev
        go_upto_region 12 with fail
        have hst1 := HS.out.bel' (Below.alloc (Below.refl _ wr) (Nat.le_refl _) (.cells #[.int .i64 ck, .string (s.extract f t), .int .i64 (f : Int), .int .i64 (t : Int)] 31))
        have hcm1 : CmAt (wr.alloc (.cells #[.int .i64 ck, .string (s.extract f t), .int .i64 (f : Int), .int .i64 (t : Int)] 31)) wr.heap.size ⟨ck, s.extract f t, f, t⟩ := heap_alloc_new _ _
        have HPV2 := Lib.hid (show ∀ j, j + 1 = k → ∃ u : Nat, u ≤ f ∧ (wr.alloc (.cells #[.int .i64 ck, .string (s.extract f t), .int .i64 (f : Int), .int .i64 (t : Int)] 31)).cell? ⟨gv, j * 4 + 3, none⟩ = some (.int .i64 (u : Int)) from fun j hj => by
          obtain ⟨u, m1, m2⟩ := HPV.out j hj
          exact ⟨u, m1, ((Below.alloc (Below.refl _ wr) (Nat.le_refl _) _).cell hgl).trans m2⟩)
        clear u0 u1 u2 u3 HPV HS HS2
        generalize World.alloc wr _ = w4 at *
        generalize wr.heap.size = h at *
        have HS := Lib.hid hst1
        clear hst1
        obtain ⟨d0, d1, d2, d3, d4, g0, g1, g2, g3, g4⟩ := TkAt.facts HS.out.tok
        obtain ⟨e0, e1, e2, e3, l0, l1, l2, l3⟩ := CmAt.facts hcm1
        have hd1 : decide (f < p) = false := decide_eq_false (by omega)
        have hd2 : decide (q < t) = false := decide_eq_false (by omega)
        have hd3 : decide (t ≤ f) = false := decide_eq_false (by omega)
        go_cut [143] from 94 to 142 (fun v wx => v = .bool false ∧ Below w4.heap.size w4 wx)
        case first =>
          by_cases hk0 : k = 0
          · subst hk0
            go_quiet (fail)
            go_wp2_with fail
            go_meet
            exact ⟨rfl, bel_drewN (Below.refl _ _) _⟩
          · obtain ⟨j, rfl⟩ : ∃ j, k = j + 1 := ⟨k - 1, by omega⟩
            obtain ⟨u, m1, m2⟩ := HPV2.out j rfl
            have hd4 : decide (f < u) = false := decide_eq_false (by omega)
            have hd5 : decide ((0 : Int) < (j : Int) + 1) = true := decide_eq_true (by omega)
            go_quiet (fail)
            go_wp2_with fail
            go_meet
            exact ⟨rfl, bel_drewN (Below.refl _ _) _⟩
        case rest =>
          obtain ⟨rfl, hbc⟩ := hcut
          have hst := HS.out.bel' hbc
          clear HS hbc d0 d1 d2 d3 d4 g0 g1 g2 g3 g4 e0 e1 e2 e3 l0 l1 l2 l3 hd1 hd2 hd3 hcm1
          go_wp2_with fail
          go_roundw
          case rel => exact ⟨k + 1, by go_num, by omega, hst⟩
          case measure => simp [intOf]; omega
      · obtain rfl : k = cs.length := by omega
        have HS2 := HS.out
        obtain ⟨d0, d1, d2, d3, d4, g0, g1, g2, g3, g4⟩ := TkAt.facts HS2.tok
        go_upto_region 14 with fail
        go_upto_region 15 with (go_at_call 14; refine (HN2.out _ (HX.out.bel HS.out.bel) _ rfl).mono ?_; rintro e w5 ⟨v2, rfl, ho2, hb2⟩)
        obtain ⟨vp2, cap2, rfl⟩ := ho2.form
        have hb5 := (HS.out.bel.trans (hb2.mono HS.out.bel.size)).alloc (Nat.le_trans HS.out.bel.size hb2.size) (.cells #[.int .i64 kind, .string (s.extract q (q + n)), .int .i64 (q : Int), .int .i64 ((q : Int) + (n : Int)), .bool false] 24)
        have hk5 : TkAt (w5.alloc (.cells #[.int .i64 kind, .string (s.extract q (q + n)), .int .i64 (q : Int), .int .i64 ((q : Int) + (n : Int)), .bool false] 24)) w5.heap.size ⟨kind, s.extract q (q + n), q, (q : Int) + (n : Int), false⟩ := heap_alloc_new _ _
        have hk6 := (HS.out.tok.bel hb2).bel (Below.alloc (Below.refl _ w5) (Nat.le_refl _) (.cells #[.int .i64 kind, .string (s.extract q (q + n)), .int .i64 (q : Int), .int .i64 ((q : Int) + (n : Int)), .bool false] 24))
        have hgne : g < w5.heap.size := Nat.lt_of_lt_of_le HS.out.tok.lt hb2.size
        have hgw := HS.out.gg
        clear d0 d1 d2 d3 d4 g0 g1 g2 g3 g4 HS HS2 hb2 ho2
        generalize World.alloc w5 _ = w6 at *
        generalize w5.heap.size = h at *
        obtain ⟨d0, d1, d2, d3, d4, g0, g1, g2, g3, g4⟩ := TkAt.facts hk6
        go_upto_region 16 with fail
        have hk7 := hk6.set 4 (.bool false) (y := ⟨kind, s.extract q (q + n), q, (q : Int) + (n : Int), false⟩) rfl
        have hk8 := hk5.other (Nat.ne_of_gt hgne) 4 (.bool false)
        have hb6 := hb5.setCell (p := ⟨g, 4, none⟩) hgw (.bool false)
        clear d0 d1 d2 d3 d4 g0 g1 g2 g3 g4 hk6 hk5 hb5
        generalize World.setCell _ _ _ = w7 at *
        obtain ⟨d0, d1, d2, d3, d4, g0, g1, g2, g3, g4⟩ := TkAt.facts hk7
        obtain ⟨x0, x1, x2, x3, x4, n0, n1, n2, n3, n4⟩ := TkAt.facts hk8
        go_wp2_with (go_at_call 15; refine (lnum_any _ _).mono ?_; rintro e w' ⟨rfl, rfl⟩)
        go_ret
        exact ⟨by simp, hb6⟩
theorem pieces_any (s : ByteArray) (at' goal : Int) (w : World) (hs : s.size ≤ 16777216) (hX : Lx w) :
    Calls Tryd.prog 3 #[.string s, .int .i64 at', .int .i64 goal] w fun e w' => e = .returned (.bool true) ∧ Below w.heap.size w w' := by
  by_cases hout : at' < 0 ∨ (s.size : Int) < at'
  · exact pieces_bad s at' goal w hX 0 500 (by decide) (by decide) (by omega) (fun W _ => next_place s at' goal W hout)
  · obtain ⟨p, rfl⟩ : ∃ p : Nat, at' = p := ⟨at'.toNat, by omega⟩
    have hp : p ≤ s.size := by omega
    cases hO : nxt s p goal with
    | fine kind q n line cs => exact pieces_fine s p goal w hs hp hX kind q n line cs hO
    | bad place code =>
      have h1 := nxt_in s p goal hp
      have h2 := nxt_nz s p goal hp
      rw [hO] at h1 h2
      exact pieces_bad s p goal w hX place code h2 h1.1 h1.2 (fun W h => by rw [← hO]; exact Next_any s p goal W hs hp h p rfl)
end Go.Proofs.YtdkkfbakggbaeaaDoor
