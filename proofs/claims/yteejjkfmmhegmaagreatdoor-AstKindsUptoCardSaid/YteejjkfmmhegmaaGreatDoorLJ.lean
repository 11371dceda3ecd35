/- Contract of the reader's between. Conditions as in ..LC; no fault noted before. -/
import Derived.Test.YteejjkfmmhegmaaGreatDoorLI
import Derived.Maps.AppendAt
namespace Go.Proofs.YteejjkfmmhegmaaGreatDoor
open Go.RowKit

theorem cmtF_code (blk : Bool) : ∀ (f : Nat) (l : List UInt8) (off : Nat) (code : Int), l.length < f → cmtF blk f l = .bad off code → code = 502 ∨ code = 507
  | 0, _, _, _, h, _ => by omega
  | f + 1, l, off, code, hf, h => by
    rw [cmtF] at h
    split at h
    · cases h
    · split at h
      · split at h
        · cases h; exact .inr rfl
        · cases h
      · split at h
        · cases h; exact .inl rfl
        · split at h
          · cases h
          · rename_i h0 hn _
            obtain ⟨m, h3, h4, h5, h6⟩ := nx_pos (l := l) (by omega)
            cases hc : cmtF blk f (l.drop (nx l).2.toNat) with
            | fine a c => rw [hc] at h; cases h
            | bad a c =>
              rw [hc] at h
              cases h
              exact cmtF_code blk f _ _ _ (by rw [List.length_drop]; omega) hc
theorem cmt_code {blk : Bool} {l : List UInt8} {off : Nat} {code : Int} (h : cmt blk l = .bad off code) : code = 502 ∨ code = 507 := cmtF_code blk _ _ _ _ (Nat.lt_succ_self _) h
theorem comment_yes (b : Nat) (s : ByteArray) (p : Nat) (line : Bool) (fl cd : Int) (w : World) (hx : RdAt w b s ⟨p, line, fl, cd⟩) (hr : Ready b w) (hs : s.size ≤ 16777216) (hp : p ≤ s.size) (hk : cmKind p (s.data.toList.drop p) ≠ 0) :
    Calls Tryz.prog 133 #[.pointer (some ⟨b, 0, none⟩)] w fun e w' => CmPost b s p line fl cd (cmKind p (s.data.toList.drop p) : Nat) w (cmt (decide (cmKind p (s.data.toList.drop p) = 2)) (s.data.toList.drop (p + 2))) e w' := by
  cases h1 : Lib.hasPrefix (s.data.toList.drop p) [47, 47] with
  | true =>
    have e : cmKind p (s.data.toList.drop p) = 1 := by unfold cmKind; rw [if_pos h1]
    rw [e]
    exact comment_1 b s ⟨p, line, fl, cd⟩ w hx hr hs hp h1
  | false =>
    have n1 : ¬ Lib.hasPrefix (s.data.toList.drop p) [47, 47] = true := by rw [h1]; decide
    cases h2 : Lib.hasPrefix (s.data.toList.drop p) [47, 42] with
    | true =>
      have e : cmKind p (s.data.toList.drop p) = 2 := by unfold cmKind; rw [if_neg n1, if_pos h2]
      rw [e]
      exact comment_2 b s ⟨p, line, fl, cd⟩ w hx hr hs hp h1 h2
    | false =>
      have n2 : ¬ Lib.hasPrefix (s.data.toList.drop p) [47, 42] = true := by rw [h2]; decide
      by_cases h3 : p = 0 ∧ Lib.hasPrefix (s.data.toList.drop p) [35, 33] = true
      · have e : cmKind p (s.data.toList.drop p) = 3 := by unfold cmKind; rw [if_neg n1, if_neg n2, if_pos h3]
        rw [e]
        exact comment_3 b s ⟨p, line, fl, cd⟩ w hx hr hs hp h1 h2 h3.1 h3.2
      · exact absurd (by unfold cmKind; rw [if_neg n1, if_neg n2, if_neg h3]) hk
theorem comment_none (b : Nat) (s : ByteArray) (p : Nat) (line : Bool) (fl cd : Int) (w : World) (hx : RdAt w b s ⟨p, line, fl, cd⟩) (hr : Ready b w) (hp : p ≤ s.size) (hk : cmKind p (s.data.toList.drop p) = 0) :
    Calls Tryz.prog 133 #[.pointer (some ⟨b, 0, none⟩)] w fun e w' => ∃ c : Cm, e = .returned (.tuple #[c.val, .bool false]) ∧ RdAt w' b s ⟨p, line, fl, cd⟩ ∧ But b w w' := by
  unfold cmKind at hk
  split at hk
  · cases hk
  · rename_i h1
    split at hk
    · cases hk
    · rename_i h2
      split at hk
      · cases hk
      · rename_i h3
        refine comment_no b s ⟨p, line, fl, cd⟩ w hx hr hp (by simpa using h1) (by simpa using h2) fun h0 => ?_
        cases h4 : Lib.hasPrefix (s.data.toList.drop p) [35, 33] with
        | false => rfl
        | true => exact absurd ⟨h0, h4⟩ h3
def cmCells (c : Cm) : List Value := [.int .i64 c.kind, .string c.text, .int .i64 c.from', .int .i64 c.till]
def cmRow (cs : List Cm) : List Value := cs.flatMap cmCells
theorem own_but {w w' : World} {b base size n : Nat} {e : TypeId} {v : Value} {xs : List Value} (h : w.ownsRow base e size v n xs) (hb : But b w w') (hbb : b < base) : w'.ownsRow base e size v n xs := by
  refine ⟨h.1, ?_⟩
  rcases h.2 with h2 | ⟨g, cap, cur, hv, hg, hh, r⟩
  · exact .inl h2
  · refine .inr ⟨g, cap, cur, hv, hg, ?_, r⟩
    rw [hb.block g (Array.getElem?_eq_some_iff.1 hh).1 (by omega)]
    exact hh
/-- a reader between tokens, with the comments met. -/
structure Bst (b : Nat) (s : ByteArray) (w0 : World) (x : Rd) (v : Value) (cs : List Cm) (w : World) : Prop where
  rd : RdAt w b s x
  own : w.ownsRow w0.heap.size 127 4 v cs.length (cmRow cs)
  but : But b w0 w
  rdy : Ready b w
  le : x.at' ≤ s.size
  bl : b < w0.heap.size
theorem Bst.step {b : Nat} {s : ByteArray} {w0 w w' : World} {x y : Rd} {v : Value} {cs : List Cm} (h : Bst b s w0 x v cs w) (hx : RdAt w' b s y) (hb : But b w w') (hl : y.at' ≤ s.size) : Bst b s w0 y v cs w' :=
  ⟨hx, own_but h.own hb h.bl, h.but.trans hb, h.rdy.but h.rd.lt hb, hl, h.bl⟩
theorem Bst.bel {b : Nat} {s : ByteArray} {w0 w w' : World} {x : Rd} {v : Value} {cs : List Cm} (h : Bst b s w0 x v cs w) (hb : Below w.heap.size w w') : Bst b s w0 x v cs w' := h.step (h.rd.bel hb) (.of_below hb) h.le
theorem Bst.setRd {b : Nat} {s : ByteArray} {w0 w : World} {x y : Rd} {v : Value} {cs : List Cm} (h : Bst b s w0 x v cs w) (k : Nat) (u : Value) (hy : (x.cells s).setIfInBounds k u = y.cells s) (hl : y.at' ≤ s.size) : Bst b s w0 y v cs (w.setCell ⟨b, k, none⟩ u) :=
  h.step (h.rd.set k u hy) ((But.refl b w).setCell k u) hl
theorem Bst.push {b : Nat} {s : ByteArray} {w0 w w1 : World} {x : Rd} {v v' : Value} {cs : List Cm} {o : Obj} (cm : Cm) (h : Bst b s w0 x v cs w) (hg : (w.alloc o).grownBy w1 v.ownBlock) (ho : w1.ownsRow w0.heap.size 127 4 v' (cs.length + 1) (cmRow cs ++ cmCells cm)) : Bst b s w0 x v' (cs ++ [cm]) w1 := by
  have hb : Below w0.heap.size w w1 := by
    refine ((Below.refl _ w).alloc h.but.size o).grown hg ?_ ?_
    · have := h.but.size; rw [World.size_alloc]; omega
    · intro k hk
      rcases h.own.2 with ⟨e, _⟩ | ⟨g, cap, cur, e, h2, _⟩
      · rw [e] at hk; cases hk
      · rw [e] at hk; cases hk; exact h2
  have hbl := h.bl
  exact ⟨(hb.block b h.bl).trans h.rd, by simpa [cmRow, List.flatMap_append] using ho, ⟨hb.os.trans h.but.os, hb.tape.trans h.but.tape, hb.output.trans h.but.output, Nat.le_trans h.but.size hb.size, fun k h1 h2 => (hb.block k h1).trans (h.but.block k h1 h2)⟩, h.rdy.bel ⟨hb.os, hb.tape, hb.output, hb.size, fun k hk => hb.block k (by omega)⟩, h.le, h.bl⟩
theorem four_new (w : World) (c : Cm) : ∀ j u, (cmCells c)[j]? = some u → (w.alloc (.cells #[.int .i64 c.kind, .string c.text, .int .i64 c.from', .int .i64 c.till] 127)).cell? ((⟨w.heap.size, 0, none⟩ : Addr).add j) = some u := by
  intro j u h
  have hc : CmAt (w.alloc (.cells c.cells 127)) w.heap.size c := heap_alloc_new _ _
  have hadd : (⟨w.heap.size, 0, none⟩ : Addr).add j = ⟨w.heap.size, j, none⟩ := by unfold Addr.add; split <;> simp_all
  rw [hadd]
  have := hc.cell j
  unfold Cm.cells at this
  rw [this]
  simpa [cmCells] using h
/-- what between answers. -/
def BtPost (b : Nat) (s : ByteArray) (w : World) (fl : Int) (o : BtO) (e : Ending) (w' : World) : Prop := match o with
  | .fine p line cs => ∃ v, e = .returned (.tuple #[v, .bool true]) ∧ Bst b s w ⟨p, line, fl, 0⟩ v cs w'
  | .bad place code => ∃ v x', e = .returned (.tuple #[v, .bool false]) ∧ RdAt w' b s x' ∧ x'.fail = place ∧ x'.code = code ∧ code ≠ 0 ∧ But b w w'
def BtRel (b : Nat) (s : ByteArray) (w : World) (p : Nat) (line : Bool) (fl : Int) (v : Value) (wr : World) : Prop :=
  ∃ (k : Nat) (ln : Bool) (cs : List Cm), p ≤ k ∧ cs.length ≤ k ∧ Bst b s w ⟨k, ln, fl, 0⟩ v cs wr ∧ btw s p line = (btw s k ln).pre cs
theorem infoCm : (Tryz.prog.info? 127).map (fun i => (i.zero, i.size, i.bytes)) = some (some (.agg #[.int .i64 0, .string ⟨#[]⟩, .int .i64 0, .int .i64 0]), 4, 40) := by kernel_rfl
set_option maxRecDepth 20000 in
set_option maxHeartbeats 4000000 in
theorem between_any (b : Nat) (s : ByteArray) (p : Nat) (line : Bool) (fl : Int) (w : World) (hx : RdAt w b s ⟨p, line, fl, 0⟩) (hr : Ready b w) (hs : s.size ≤ 16777216) (hp : p ≤ s.size) :
    Calls Tryz.prog 108 #[.pointer (some ⟨b, 0, none⟩)] w fun e w' => BtPost b s w fl (btw s p line) e w' := by
  obtain ⟨i0, hi, hz0, hz1, hz2⟩ := info_parts infoCm
  have HB0 := Lib.hid (show Bst b s w ⟨p, line, fl, 0⟩ (.slice none 0 0) [] w from ⟨hx, World.ownsRow_nil _ _ _ _, But.refl _ _, hr, hp, hx.lt⟩)
  clear hx hr
  go_enter Tryz.func108, Tryz.ntmps108
  go_wp2
  go_loopw [4, 5, 6, 7, 8] (fun v _ _ _ _ wr => BtRel b s w p line fl v wr) (fun _ _ _ _ _ wr => s.size - rdPos wr b)
  case atStart => exact ⟨p, line, [], Nat.le_refl _, Nat.zero_le _, HB0.out, by rw [pre_nil]⟩
  case round =>
    obtain ⟨k, ln, cs, hk, hcl, hbst, heq⟩ := hrel
    have hle := hbst.le
    simp only at hle
    have HPOS := Lib.hid hbst.rd.pos
    have hst := btw_step s k ln hle
    have hnx := fun W hx hr => rnext_any b s ⟨k, ln, fl, 0⟩ W hx hr hle
    have hpz := fun h => nx_pos (l := s.data.toList.drop k) h
    rw [List.length_drop, ofl] at hpz
    have hends := fun W => ends_any (nx (s.data.toList.drop k)).1 W
    have hblank := fun W => blank_any (nx (s.data.toList.drop k)).1 W
    have hgap : isGap (s.data.toList.drop k) = (decide (0 < (nx (s.data.toList.drop k)).2) && (endsR (nx (s.data.toList.drop k)).1 || blankR (nx (s.data.toList.drop k)).1)) := rfl
    have hcn := fun W hx hr h => comment_none b s k ln fl 0 W hx hr hle h
    have hcy := fun W hx hr h => comment_yes b s k ln fl 0 W hx hr hs hle h
    clear HB0
    have HK := Lib.hid hbst
    clear hbst
    simp only at hnx
    generalize he : endsR (nx (s.data.toList.drop k)).1 = ed at *
    generalize hbl : blankR (nx (s.data.toList.drop k)).1 = bl at *
    generalize hc : (nx (s.data.toList.drop k)).1 = c at *
    generalize hn : (nx (s.data.toList.drop k)).2 = n at *
    generalize isGap (s.data.toList.drop k) = ig at *
    clear he hbl hc hn
    have HNX := Lib.hid hnx
    have HPZ := Lib.hid hpz
    have HEN := Lib.hid hends
    have HBL := Lib.hid hblank
    have HEQ := Lib.hid heq
    have HST := Lib.hid hst
    have HG := Lib.hid hgap
    have HCN := Lib.hid hcn
    have HCY := Lib.hid hcy
    clear hnx hpz hends hblank heq hst hgap hcn hcy
    obtain ⟨c0, c1, c2, c3, c4, f0, f1, f2, f3, f4⟩ := RdAt.facts HK.out.rd
    go_upto_region 3 with (go_at_call 130; refine (HNX.out _ HK.out.rd HK.out.rdy).mono ?_; rintro e w9 ⟨rfl, hb⟩; clear c0 c1 c2 c3 c4 f0 f1 f2 f3 f4; replace HK := Lib.hid (HK.out.bel hb); clear hb; obtain ⟨c0, c1, c2, c3, c4, f0, f1, f2, f3, f4⟩ := RdAt.facts HK.out.rd)
    go_cut [23] from 14 to 22 (fun v wx => v = .bool ig ∧ Bst b s w ⟨k, ln, fl, 0⟩ u4 cs wx)
    case first =>
      clear HEQ HST HCN HCY
      by_cases hn0 : 0 < n
      · cases hed : ed with
        | true =>
          have HV := Lib.hid (show ig = true by rw [HG.out, decide_eq_true hn0, hed]; rfl)
          rw [hed] at HEN
          go_wp2_with (go_at_call 131; refine (HEN.out _).mono ?_; rintro e w9 ⟨rfl, hb⟩; clear c0 c1 c2 c3 c4 f0 f1 f2 f3 f4; replace HK := Lib.hid (HK.out.bel hb); clear hb; obtain ⟨c0, c1, c2, c3, c4, f0, f1, f2, f3, f4⟩ := RdAt.facts HK.out.rd)
          go_meet
          exact ⟨by rw [HV.out], HK.out⟩
        | false =>
          have HV := Lib.hid (show ig = bl by rw [HG.out, decide_eq_true hn0, hed]; rfl)
          rw [hed] at HEN
          go_wp2_with (first | (go_at_call 131; refine (HEN.out _).mono ?_; rintro e w9 ⟨rfl, hb⟩; clear c0 c1 c2 c3 c4 f0 f1 f2 f3 f4; replace HK := Lib.hid (HK.out.bel hb); clear hb; obtain ⟨c0, c1, c2, c3, c4, f0, f1, f2, f3, f4⟩ := RdAt.facts HK.out.rd) | (go_at_call 132; refine (HBL.out _).mono ?_; rintro e w9 ⟨rfl, hb⟩; clear c0 c1 c2 c3 c4 f0 f1 f2 f3 f4; replace HK := Lib.hid (HK.out.bel hb); clear hb; obtain ⟨c0, c1, c2, c3, c4, f0, f1, f2, f3, f4⟩ := RdAt.facts HK.out.rd))
          go_meet
          exact ⟨by rw [HV.out], HK.out⟩
      · have HV := Lib.hid (show ig = false by rw [HG.out, decide_eq_false hn0]; rfl)
        go_wp2_with fail
        go_meet
        exact ⟨by rw [HV.out], HK.out⟩
    case rest =>
      obtain ⟨rfl, hbst⟩ := hcut
      clear c0 c1 c2 c3 c4 f0 f1 f2 f3 f4
      clear HK HBL
      have HK := Lib.hid hbst
      clear hbst
      obtain ⟨c0, c1, c2, c3, c4, f0, f1, f2, f3, f4⟩ := RdAt.facts HK.out.rd
      cases hig : ig with
      | true =>
        have hn0 : 0 < n := by
          have := HG.out
          rw [hig] at this
          simp only [Bool.and_eq_true, eq_comm (a := true), decide_eq_true_eq] at this
          exact this.1
        obtain ⟨m, rfl, hm1, hm2, hm3⟩ := HPZ.out (by omega)
        have HN := Lib.hid (show btw s p line = (btw s (k + m) (ln || ed)).pre cs by rw [HEQ.out, HST.out, if_pos hig, Int.toNat_natCast])
        clear HEQ HST HCN HCY HPZ HG hm3
        subst hig
        cases hln : ln with
        | true =>
          rw [hln] at HN HNX
          subst hln
          cases hed : ed with
          | true =>
            rw [hed] at HN HEN
            subst hed
            go_upto_region 5 with fail
            have hkc := HK.out.setRd (y := ⟨k, true, fl, 0⟩) 2 (.bool true) rfl hle
            clear c0 c1 c2 c3 c4 f0 f1 f2 f3 f4
            clear HK
            generalize World.setCell _ _ _ = w6 at *
            have HK := Lib.hid hkc
            clear hkc
            obtain ⟨c0, c1, c2, c3, c4, f0, f1, f2, f3, f4⟩ := RdAt.facts HK.out.rd
            go_wp2_with fail
            have hkd := HK.out.setRd (y := ⟨k + m, true, fl, 0⟩) 0 (.int .i64 ((k : Int) + (m : Int))) rfl (show k + m ≤ s.size by omega)
            go_roundw
            case rel => exact ⟨k + m, _, cs, by omega, by omega, hkd, HN.out⟩
            case measure => rw [hkd.rd.pos, HPOS.out]; simp only; omega
          | false =>
            rw [hed] at HN HEN
            subst hed
            go_upto_region 5 with fail
            have hkc := HK.out.setRd (y := ⟨k, true, fl, 0⟩) 2 (.bool true) rfl hle
            clear c0 c1 c2 c3 c4 f0 f1 f2 f3 f4
            clear HK
            generalize World.setCell _ _ _ = w6 at *
            have HK := Lib.hid hkc
            clear hkc
            obtain ⟨c0, c1, c2, c3, c4, f0, f1, f2, f3, f4⟩ := RdAt.facts HK.out.rd
            go_wp2_with fail
            have hkd := HK.out.setRd (y := ⟨k + m, true, fl, 0⟩) 0 (.int .i64 ((k : Int) + (m : Int))) rfl (show k + m ≤ s.size by omega)
            go_roundw
            case rel => exact ⟨k + m, _, cs, by omega, by omega, hkd, HN.out⟩
            case measure => rw [hkd.rd.pos, HPOS.out]; simp only; omega
        | false =>
          rw [hln] at HN HNX
          subst hln
          cases hed : ed with
          | true =>
            rw [hed] at HN HEN
            subst hed
            go_upto_region 5 with (go_at_call 131; refine (HEN.out _).mono ?_; rintro e w9 ⟨rfl, hb⟩; clear c0 c1 c2 c3 c4 f0 f1 f2 f3 f4; replace HK := Lib.hid (HK.out.bel hb); clear hb; obtain ⟨c0, c1, c2, c3, c4, f0, f1, f2, f3, f4⟩ := RdAt.facts HK.out.rd)
            have hkc := HK.out.setRd (y := ⟨k, true, fl, 0⟩) 2 (.bool true) rfl hle
            clear c0 c1 c2 c3 c4 f0 f1 f2 f3 f4
            clear HK
            generalize World.setCell _ _ _ = w6 at *
            have HK := Lib.hid hkc
            clear hkc
            obtain ⟨c0, c1, c2, c3, c4, f0, f1, f2, f3, f4⟩ := RdAt.facts HK.out.rd
            go_wp2_with fail
            have hkd := HK.out.setRd (y := ⟨k + m, true, fl, 0⟩) 0 (.int .i64 ((k : Int) + (m : Int))) rfl (show k + m ≤ s.size by omega)
            go_roundw
            case rel => exact ⟨k + m, _, cs, by omega, by omega, hkd, HN.out⟩
            case measure => rw [hkd.rd.pos, HPOS.out]; simp only; omega
          | false =>
            rw [hed] at HN HEN
            subst hed
            go_upto_region 5 with (go_at_call 131; refine (HEN.out _).mono ?_; rintro e w9 ⟨rfl, hb⟩; clear c0 c1 c2 c3 c4 f0 f1 f2 f3 f4; replace HK := Lib.hid (HK.out.bel hb); clear hb; obtain ⟨c0, c1, c2, c3, c4, f0, f1, f2, f3, f4⟩ := RdAt.facts HK.out.rd)
            have hkc := HK.out.setRd (y := ⟨k, false, fl, 0⟩) 2 (.bool false) rfl hle
            clear c0 c1 c2 c3 c4 f0 f1 f2 f3 f4
            clear HK
            generalize World.setCell _ _ _ = w6 at *
            have HK := Lib.hid hkc
            clear hkc
            obtain ⟨c0, c1, c2, c3, c4, f0, f1, f2, f3, f4⟩ := RdAt.facts HK.out.rd
            go_wp2_with fail
            have hkd := HK.out.setRd (y := ⟨k + m, false, fl, 0⟩) 0 (.int .i64 ((k : Int) + (m : Int))) rfl (show k + m ≤ s.size by omega)
            go_roundw
            case rel => exact ⟨k + m, _, cs, by omega, by omega, hkd, HN.out⟩
            case measure => rw [hkd.rd.pos, HPOS.out]; simp only; omega
      | false =>
        by_cases hk0 : cmKind k (s.data.toList.drop k) = 0
        · have HN := Lib.hid (show btw s p line = .fine k ln cs by rw [HEQ.out, HST.out, hig, if_neg (by decide), if_pos hk0]; simp [BtO.pre])
          clear HEQ HST HCY HPZ HG HNX HEN
          subst hig
          go_upto_region 7 with (go_at_call 133; refine (HCN.out _ HK.out.rd HK.out.rdy hk0).mono ?_; rintro e w9 ⟨⟨kd, tx, fr, tl⟩, rfl, hx9, hb9⟩; unfold Cm.val Cm.cells; clear c0 c1 c2 c3 c4 f0 f1 f2 f3 f4; replace HK := Lib.hid (HK.out.step hx9 hb9 hle); clear hx9 hb9; obtain ⟨c0, c1, c2, c3, c4, f0, f1, f2, f3, f4⟩ := RdAt.facts HK.out.rd)
          have hk1 := fun o => HK.out.bel (Below.alloc (Below.refl _ w9) (Nat.le_refl _) o)
          have hk2 := hk1 (.cells (Cm.cells ⟨kd, tx, fr, tl⟩) 127)
          unfold Cm.cells at hk2
          simp only at hk2
          clear c0 c1 c2 c3 c4 f0 f1 f2 f3 f4
          clear HK hk1
          generalize w9.alloc (.cells #[.int .i64 kd, .string tx, .int .i64 fr, .int .i64 tl] 127) = w10 at *
          have HK := Lib.hid hk2
          clear hk2
          obtain ⟨c0, c1, c2, c3, c4, f0, f1, f2, f3, f4⟩ := RdAt.facts HK.out.rd
          go_upto_region 8 with fail
          go_quiet (fail)
          go_wp2_with fail
          go_ret2
          rw [HN.out]
          exact ⟨_, rfl, HK.out.bel (bel_drewN (Below.refl _ _) _)⟩
        · cases ho : cmt (decide (cmKind k (s.data.toList.drop k) = 2)) (s.data.toList.drop (k + 2)) with
          | fine n' ln' =>
            have hl2 := cmKind_len hk0
            rw [List.length_drop, ofl] at hl2
            have hl3 := cmt_le ho
            rw [List.length_drop, ofl] at hl3
            have hln : k + 2 + n' ≤ s.size := by omega
            have HN := Lib.hid (show btw s p line = (btw s (k + 2 + n') (ln || ln')).pre (cs ++ [⟨cmKind k (s.data.toList.drop k), s.extract k (k + 2 + n'), k, (k : Int) + 2 + (n' : Int)⟩]) by rw [show (k : Int) + 2 + (n' : Int) = ((k + 2 + n' : Nat) : Int) by omega, HEQ.out, HST.out, hig, if_neg (by decide), if_neg hk0, ho, pre_pre])
            have hcy := fun W hx hr => HCY.out W hx hr hk0
            rw [ho] at hcy
            unfold CmPost at hcy
            simp only at hcy
            generalize (cmKind k (s.data.toList.drop k) : Nat) = K at *
            generalize s.extract k (k + 2 + n') = X at *
            have HCY2 := Lib.hid hcy
            clear HEQ HST HCY HCN HPZ HG HNX HEN hcy ho hk0 hl2 hl3
            subst hig
            go_upto_region 7 with (go_at_call 133; refine (HCY2.out _ HK.out.rd HK.out.rdy).mono ?_; rintro e w9 ⟨rfl, hx9, hb9⟩; unfold Cm.val Cm.cells; clear c0 c1 c2 c3 c4 f0 f1 f2 f3 f4; replace HK := Lib.hid (HK.out.step hx9 hb9 hln); clear hx9 hb9 HCY2; obtain ⟨c0, c1, c2, c3, c4, f0, f1, f2, f3, f4⟩ := RdAt.facts HK.out.rd)
            have hk1 := fun o => HK.out.bel (Below.alloc (Below.refl _ w9) (Nat.le_refl _) o)
            have hk2 := hk1 (.cells (Cm.cells ⟨K, X, k, ((k + 2 + n' : Nat) : Int)⟩) 127)
            have hcm : CmAt (w9.alloc (.cells (Cm.cells ⟨K, X, k, ((k + 2 + n' : Nat) : Int)⟩) 127)) w9.heap.size ⟨K, X, k, ((k + 2 + n' : Nat) : Int)⟩ := heap_alloc_new _ _
            unfold Cm.cells at hk2 hcm
            simp only at hk2 hcm
            clear c0 c1 c2 c3 c4 f0 f1 f2 f3 f4
            clear HK hk1
            have e32 : ((k + 2 + n' : Nat) : Int) = (k : Int) + 2 + (n' : Int) := by omega
            rw [e32] at hk2 hcm
            generalize hwa : w9.alloc (.cells #[.int .i64 (K : Int), .string X, .int .i64 (k : Int), .int .i64 ((k : Int) + 2 + (n' : Int))] 127) = w10 at *
            generalize w9.heap.size = gc at *
            have HK := Lib.hid hk2
            clear hk2 e32 hwa
            obtain ⟨c0, c1, c2, c3, c4, f0, f1, f2, f3, f4⟩ := RdAt.facts HK.out.rd
            obtain ⟨d0, d1, d2, d3, g0, g1, g2, g3⟩ := CmAt.facts hcm
            have hown := HK.out.own
            have hsz := HK.out.but.size
            have hone : ∀ u ∈ cmCells ⟨K, X, k, (k : Int) + 2 + (n' : Int)⟩, u.oneCell' = true := by
              intro u hu
              simp only [cmCells, List.mem_cons, List.not_mem_nil, or_false] at hu
              rcases hu with rfl | rfl | rfl | rfl <;> rfl
            go_upto_region 9 with fail
            go_wp2_with (at_builtin; refine wpList_append_own_at _ rfl _ _ 84 rfl w.heap.size 127 i0 (.agg #[.int .i64 0, .string ⟨#[]⟩, .int .i64 0, .int .i64 0]) 4 40 (by kernel_rfl) hi hz0 hz1 hz2 rfl (by decide) _ _ _ rfl (hown.alloc _) ⟨w10.heap.size, 0, none⟩ 1 1 (cmCells ⟨K, X, k, (k : Int) + 2 + (n' : Int)⟩) rfl rfl (four_new _ _) hone (by unfold maxLen; omega) (by omega) (by rw [World.size_alloc]; omega) ?_)
            intro v' w1 hown' hgrow _ _
            have hpush := Bst.push ⟨K, X, k, (k : Int) + 2 + (n' : Int)⟩ HK.out hgrow hown'
            clear c0 c1 c2 c3 c4 f0 f1 f2 f3 f4
            clear hown' hgrow hown hcm d0 d1 d2 d3 g0 g1 g2 g3
            go_wp2_with fail
            go_roundw
            case rel => exact ⟨k + 2 + n', _, cs ++ [⟨K, X, k, (k : Int) + 2 + (n' : Int)⟩], by omega, by simp; omega, hpush, HN.out⟩
            case measure => rw [hpush.rd.pos, HPOS.out]; simp only; omega
          | bad off code =>
            have hcd := cmt_code ho
            have HN := Lib.hid (show btw s p line = .bad (badPlace k off code) code by rw [HEQ.out, HST.out, hig, if_neg (by decide), if_neg hk0, ho]; rfl)
            have hcy := fun W hx hr => HCY.out W hx hr hk0
            rw [ho] at hcy
            unfold CmPost at hcy
            simp only at hcy
            have HCY2 := Lib.hid hcy
            have hc0 : (code == 0) = false := by rw [beq_eq_false_iff_ne]; omega
            clear HEQ HST HCY HCN HPZ HG HNX HEN hcy ho hk0
            subst hig
            go_upto_region 7 with (go_at_call 133; refine (HCY2.out _ HK.out.rd HK.out.rdy).mono ?_; rintro e w9 ⟨⟨kd, tx, fr, tl⟩, ⟨p9, l9, f9, c9⟩, rfl, hx9, hc9, hf9, hb9⟩; simp only at hc9 hf9; subst hc9; unfold Cm.val Cm.cells; clear c0 c1 c2 c3 c4 f0 f1 f2 f3 f4; have HX9 := Lib.hid hx9; have HB9 := Lib.hid (HK.out.but.trans hb9); have HF9 := Lib.hid hf9; clear hx9 hb9 hf9 HK HCY2)
            have hx10 := fun o => HX9.out.bel (Below.alloc (Below.refl _ w9) (Nat.le_refl _) o)
            have hx11 := hx10 (.cells (Cm.cells ⟨kd, tx, fr, tl⟩) 127)
            have hb10 := HB9.out.bel (Below.alloc (Below.refl _ w9) (Nat.le_refl _) (.cells (Cm.cells ⟨kd, tx, fr, tl⟩) 127))
            unfold Cm.cells at hx11 hb10
            simp only at hx11 hb10
            clear hx10 HX9 HB9
            generalize w9.alloc (.cells #[.int .i64 kd, .string tx, .int .i64 fr, .int .i64 tl] 127) = w10 at *
            have HX := Lib.hid hx11
            clear hx11
            obtain ⟨c0, c1, c2, c3, c4, f0, f1, f2, f3, f4⟩ := RdAt.facts HX.out
            go_upto_region 8 with fail
            go_quiet (fail)
            go_wp2_with fail
            go_ret2
            rw [HN.out]
            exact ⟨_, _, rfl, HX.out.bel (bel_drewN (Below.refl _ _) _), HF9.out, rfl, by omega, hb10.drewN _⟩
end Go.Proofs.YteejjkfmmhegmaaGreatDoor
