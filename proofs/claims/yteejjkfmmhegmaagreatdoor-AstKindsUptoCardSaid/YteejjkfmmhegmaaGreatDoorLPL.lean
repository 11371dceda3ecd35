/- lex.Next for the goal 4, its walk. Conditions as in ..LPI. -/
import Derived.Test.YteejjkfmmhegmaaGreatDoorLPJ
namespace Go.Proofs.YteejjkfmmhegmaaGreatDoor
open Go.RowKit

set_option maxRecDepth 20000 in
set_option maxHeartbeats 8000000 in
theorem next_4 (s : ByteArray) (p : Nat) (w : World) (hs : s.size ≤ 16777216) (hp : p ≤ s.size) (hT : Lib.Utf8Tabs 2 3 w) (hM : MaxAt w) (hS : Lib.TabIs Tryz.prog w "strings.asciiSpace" .u8 Lib.asciiSpaceTab) :
    Calls Tryz.prog 75 #[.string s, .int .i64 p, .int .i64 4] w fun e w' => NxPost s w (nxt s p 4) e w' := by
  have hk := tk_new w
  have hb : Below w.heap.size w (w.alloc (.cells Tk.zero.cells 83)) := Below.alloc (Below.refl _ w) (Nat.le_refl _) _
  have hl : w.heap.size < (w.alloc (.cells Tk.zero.cells 83)).heap.size := by rw [World.size_alloc]; omega
  have hn0 := Nst.start (s := s) (p := p) hk hb hl hT hM hS
  have hbb : (w.alloc (.cells Tk.zero.cells 83)).heap.size = w.heap.size + 1 := World.size_alloc _ _
  have hO := nxt_ok (s := s) (p := p) (goal := 4) (by omega)
  have hO2 : nxt s p 4 = (match (BtO.fine p false []) with
    | .bad place code => .bad place code
    | .fine q line cs => match childT (s.data.toList.drop q) with
      | .fine kind n => .fine kind q n line cs
      | .bad off code => .bad ((q + off : Nat) : Int) code) := hO
  generalize nxt s p 4 = O at *
  have HO := Lib.hid hO2
  clear hO hO2 hT hM hS hk hb hl
  unfold Tk.zero Tk.cells Rd.cells at hn0
  unfold Tk.zero Tk.cells at hbb
  simp only at hn0 hbb
  skip
  go_enter Tryz.func75, Tryz.ntmps75
  go_upto_region 5 with fail
  go_upto_region 8 with fail
  rw [hbb] at hn0
  generalize World.alloc (World.alloc _ _) _ = w1 at *
  clear hbb
  generalize hgg : w.heap.size = g at *
  generalize hbbb : g + 1 = b at *
  have HN := Lib.hid hn0
  have HG := Lib.hid hgg
  clear hn0 hbbb
  clear hgg
  obtain ⟨c0, c1, c2, c3, c4, f0, f1, f2, f3, f4⟩ := RdAt.facts HN.out.rd
  obtain ⟨z0, z1, z2, z3, z4, y0, y1, y2, y3, y4⟩ := TkAt.facts HN.out.res
  have HO2 := HO
  clear HO
  have hql : p ≤ s.size := hp
  go_upto_region 10 with fail
  have hzb := HN.out.tokN ⟨0, ⟨#[]⟩, ((p : Nat) : Int), 0, false⟩
  unfold Tk.cells at hzb
  simp only at hzb
  have hza := HN.out.tok0
  unfold Tk.zero Tk.cells at hza
  simp only at hza
  obtain ⟨r0, r1, r2, r3, r4, q0, q1, q2, q3, q4⟩ := RdAt.facts hza.n.rd
  obtain ⟨t0, t1, t2, t3, t4, u0', u1', u2', u3', u4'⟩ := TkAt.facts hza.tok
  go_cut [13] from 14 (fun u wx => ∃ h, u = .pointer (some ⟨h, 0, none⟩) ∧ Nst2 b g h s w ⟨p, false, 0, 0⟩ (.slice none 0 0) ([]) ⟨0, ⟨#[]⟩, ((p : Nat) : Int), 0, false⟩ wx)
  case first =>
    go_region
    all_goals go_wp2_with fail
    all_goals go_meet
    all_goals exact ⟨_, rfl, hzb.drew⟩
  case' rest =>
    obtain ⟨h, rfl, hn2⟩ := hcut
    clear c0 c1 c2 c3 c4 f0 f1 f2 f3 f4 z0 z1 z2 z3 z4 y0 y1 y2 y3 y4 HN r0 r1 r2 r3 r4 q0 q1 q2 q3 q4 t0 t1 t2 t3 t4 u0' u1' u2' u3' u4' hza hzb
    have HN := Lib.hid hn2
    clear hn2
    obtain ⟨c0, c1, c2, c3, c4, f0, f1, f2, f3, f4⟩ := RdAt.facts HN.out.n.rd
    obtain ⟨z0, z1, z2, z3, z4, y0, y1, y2, y3, y4⟩ := TkAt.facts HN.out.n.res
    obtain ⟨d0, d1, d2, d3, d4, g0, g1, g2, g3, g4⟩ := TkAt.facts HN.out.tok
  have htk := fun W hx hr => child_any b s p false 0 W hx hr hs hql
  cases hto : childT (s.data.toList.drop p) with
  | fine kind n =>
    rw [hto] at htk
    simp only [TkP] at htk
    have HTK := Lib.hid htk
    have HF := Lib.hid (show O = .fine kind p n false [] by rw [HO2.out]; simp only [hto])
    clear htk hto HO2
    go_upto_region 20 with (go_at_call 110; refine (HTK.out _ HN.out.n.rd HN.out.n.rdy).mono ?_; rintro e w9 ⟨rfl, hst9⟩; clear c0 c1 c2 c3 c4 f0 f1 f2 f3 f4 z0 z1 z2 z3 z4 y0 y1 y2 y3 y4 d0 d1 d2 d3 d4 g0 g1 g2 g3 g4; have hqn9 : p + n ≤ s.size := hst9.le; replace HN := Lib.hid (HN.out.step hst9.rd hst9.but); clear hst9; obtain ⟨c0, c1, c2, c3, c4, f0, f1, f2, f3, f4⟩ := RdAt.facts HN.out.n.rd; obtain ⟨z0, z1, z2, z3, z4, y0, y1, y2, y3, y4⟩ := TkAt.facts HN.out.n.res; obtain ⟨d0, d1, d2, d3, d4, g0, g1, g2, g3, g4⟩ := TkAt.facts HN.out.tok)
    obtain ⟨c0, c1, c2, c3, c4, f0, f1, f2, f3, f4⟩ := RdAt.facts HN.out.n.rd
    obtain ⟨z0, z1, z2, z3, z4, y0, y1, y2, y3, y4⟩ := TkAt.facts HN.out.n.res
    obtain ⟨d0, d1, d2, d3, d4, g0, g1, g2, g3, g4⟩ := TkAt.facts HN.out.tok
    clear c0 c1 c2 c3 c4 f0 f1 f2 f3 f4 z0 z1 z2 z3 z4 y0 y1 y2 y3 y4 d0 d1 d2 d3 d4 g0 g1 g2 g3 g4
    have hn3 := HN.out.set 0 (.int .i64 kind) (y := ⟨kind, ⟨#[]⟩, ((p : Nat) : Int), 0, false⟩) rfl
    clear HN
    generalize World.setCell _ _ _ = w5 at *
    have HN := Lib.hid hn3
    clear hn3
    obtain ⟨c0, c1, c2, c3, c4, f0, f1, f2, f3, f4⟩ := RdAt.facts HN.out.n.rd
    obtain ⟨z0, z1, z2, z3, z4, y0, y1, y2, y3, y4⟩ := TkAt.facts HN.out.n.res
    obtain ⟨d0, d1, d2, d3, d4, g0, g1, g2, g3, g4⟩ := TkAt.facts HN.out.tok
    go_upto_region 23 with fail
    have hn3 := HN.out.set 3 (.int .i64 ((p : Int) + (n : Int))) (y := ⟨kind, ⟨#[]⟩, ((p : Nat) : Int), (p : Int) + (n : Int), false⟩) rfl
    clear c0 c1 c2 c3 c4 f0 f1 f2 f3 f4 z0 z1 z2 z3 z4 y0 y1 y2 y3 y4 d0 d1 d2 d3 d4 g0 g1 g2 g3 g4
    clear HN
    generalize World.setCell _ _ _ = w6 at *
    have HN := Lib.hid hn3
    clear hn3
    obtain ⟨c0, c1, c2, c3, c4, f0, f1, f2, f3, f4⟩ := RdAt.facts HN.out.n.rd
    obtain ⟨z0, z1, z2, z3, z4, y0, y1, y2, y3, y4⟩ := TkAt.facts HN.out.n.res
    obtain ⟨d0, d1, d2, d3, d4, g0, g1, g2, g3, g4⟩ := TkAt.facts HN.out.tok
    go_upto_region 24 with fail
    have hn3 := HN.out.set 1 (.string (s.extract p (p + n))) (y := ⟨kind, s.extract p (p + n), ((p : Nat) : Int), (p : Int) + (n : Int), false⟩) rfl
    clear c0 c1 c2 c3 c4 f0 f1 f2 f3 f4 z0 z1 z2 z3 z4 y0 y1 y2 y3 y4 d0 d1 d2 d3 d4 g0 g1 g2 g3 g4
    clear HN
    generalize World.setCell _ _ _ = w7 at *
    have HN := Lib.hid hn3
    clear hn3
    obtain ⟨c0, c1, c2, c3, c4, f0, f1, f2, f3, f4⟩ := RdAt.facts HN.out.n.rd
    obtain ⟨z0, z1, z2, z3, z4, y0, y1, y2, y3, y4⟩ := TkAt.facts HN.out.n.res
    obtain ⟨d0, d1, d2, d3, d4, g0, g1, g2, g3, g4⟩ := TkAt.facts HN.out.tok
    go_wp2_with fail
    (try simp only [Exit.inBlock, Exit.then])
    refine bodyPost_ret (results_tk4 rfl _ _ _ _ rfl (TkAt.lay HN.out.n.res)) rfl ?_
    rw [HF.out]
    have hgl := HN.out.n.gl
    have hgg := HN.out.n.gg
    exact ⟨_, by rw [show ((p + n : Nat) : Int) = (p : Int) + (n : Int) by omega]; rfl, (HN.out.n.own.lay5 (show g < b + 1 by omega)).mono (show w.heap.size ≤ b + 1 by have := HG.out; omega), below_lay5 HN.out.n.bel hgg⟩
  | bad off code =>
    rw [hto] at htk
    simp only [TkP] at htk
    have HTK := Lib.hid htk
    have HF := Lib.hid (show O = .bad ((p + off : Nat) : Int) code by rw [HO2.out]; simp only [hto])
    clear htk hto HO2
    go_upto_region 20 with (go_at_call 110; refine (HTK.out _ HN.out.n.rd HN.out.n.rdy).mono ?_; rintro e w9 ⟨x', kd, rfl, hst9, hl9, hf9, hc9⟩; clear c0 c1 c2 c3 c4 f0 f1 f2 f3 f4 z0 z1 z2 z3 z4 y0 y1 y2 y3 y4 d0 d1 d2 d3 d4 g0 g1 g2 g3 g4; obtain ⟨p9, l9, f9, e9⟩ := x'; simp only at hl9 hf9 hc9; subst hf9; subst hc9; replace HN := Lib.hid (HN.out.step hst9.rd hst9.but); clear hst9; obtain ⟨c0, c1, c2, c3, c4, f0, f1, f2, f3, f4⟩ := RdAt.facts HN.out.n.rd; obtain ⟨z0, z1, z2, z3, z4, y0, y1, y2, y3, y4⟩ := TkAt.facts HN.out.n.res; obtain ⟨d0, d1, d2, d3, d4, g0, g1, g2, g3, g4⟩ := TkAt.facts HN.out.tok)
    obtain ⟨c0, c1, c2, c3, c4, f0, f1, f2, f3, f4⟩ := RdAt.facts HN.out.n.rd
    obtain ⟨z0, z1, z2, z3, z4, y0, y1, y2, y3, y4⟩ := TkAt.facts HN.out.n.res
    obtain ⟨d0, d1, d2, d3, d4, g0, g1, g2, g3, g4⟩ := TkAt.facts HN.out.tok
    clear c0 c1 c2 c3 c4 f0 f1 f2 f3 f4 z0 z1 z2 z3 z4 y0 y1 y2 y3 y4 d0 d1 d2 d3 d4 g0 g1 g2 g3 g4
    have hn3 := HN.out.set 0 (.int .i64 kd) (y := ⟨kd, ⟨#[]⟩, ((p : Nat) : Int), 0, false⟩) rfl
    clear HN
    generalize World.setCell _ _ _ = w5 at *
    have HN := Lib.hid hn3
    clear hn3
    obtain ⟨c0, c1, c2, c3, c4, f0, f1, f2, f3, f4⟩ := RdAt.facts HN.out.n.rd
    obtain ⟨z0, z1, z2, z3, z4, y0, y1, y2, y3, y4⟩ := TkAt.facts HN.out.n.res
    obtain ⟨d0, d1, d2, d3, d4, g0, g1, g2, g3, g4⟩ := TkAt.facts HN.out.tok
    go_upto_region 21 with fail
    have hrz := HN.out.n.res
    have hbz := HN.out.n.bel
    have hgg := HN.out.n.gg
    have hr5 := rd_lay5 (u0 := .int .i64 0) (u1 := .string ⟨#[]⟩) (u2 := .int .i64 0) (u3 := .int .i64 0) (u4 := .bool false) HN.out.n.rd HN.out.n.gl
    obtain ⟨r0, r1, r2, r3, r4, q0, q1, q2, q3, q4⟩ := RdAt.facts hr5
    go_region
    all_goals go_wp2_with fail
    all_goals (try simp only [Exit.inBlock, Exit.then])
    all_goals refine bodyPost_ret (results_tk4 rfl _ _ _ _ rfl ((TkAt.lay (x := Tk.zero) hrz).bel (Below.drew (Below.refl _ _)))) rfl ?_
    all_goals rw [HF.out]
    all_goals exact ⟨rfl, (below_lay5 hbz hgg).drew⟩
end Go.Proofs.YteejjkfmmhegmaaGreatDoor
