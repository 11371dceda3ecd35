/- Contracts of the reader's broken, name and number. Conditions as in ..LC. -/
import Derived.Test.YteejjkfmmhegmaaGreatDoorLC
namespace Go.Proofs.YteejjkfmmhegmaaGreatDoor
open Go.RowKit

set_option maxRecDepth 20000 in
set_option maxHeartbeats 1000000 in
theorem broken_bad (b : Nat) (s : ByteArray) (x : Rd) (w : World) (hx : RdAt w b s x) (hr : Ready b w) (hp : x.at' ≤ s.size) (hn : (nx (s.data.toList.drop x.at')).2 < 0) :
    Calls Tryz.prog 140 #[.pointer (some ⟨b, 0, none⟩)] w fun e w' => e = .returned (.bool true) ∧ RdAt w' b s { x with fail := x.at', code := 502 } ∧ But b w w' := by
  have hN := rnext_any b s x w hx hr hp
  rw [(nx_neg hn).1] at hN
  have HX := Lib.hid hx
  have HN := Lib.hid hN
  clear hN hn hx hr
  obtain ⟨p, line, fl, cd⟩ := x
  go_enter Tryz.func140, Tryz.ntmps140
  go_wp2_with (first | (go_at_call 130; refine HN.out.mono ?_; rintro e w1 ⟨rfl, hb1⟩; have HX1 := Lib.hid (HX.out.bel hb1); obtain ⟨c0, c1, c2, c3, c4, f0, f1, f2, f3, f4⟩ := RdAt.facts HX1.out) | (go_at_call 138; refine (stop_any b s _ _ _ _ HX1.out).mono ?_; rintro e w2 ⟨rfl, hx2, hb2⟩))
  go_ret
  exact ⟨rfl, hx2, (But.of_below hb1).trans hb2⟩
set_option maxRecDepth 20000 in
set_option maxHeartbeats 1000000 in
theorem broken_good (b : Nat) (s : ByteArray) (x : Rd) (w : World) (hx : RdAt w b s x) (hr : Ready b w) (hp : x.at' ≤ s.size) (hn : 0 ≤ (nx (s.data.toList.drop x.at')).2) :
    Calls Tryz.prog 140 #[.pointer (some ⟨b, 0, none⟩)] w fun e w' => e = .returned (.bool false) ∧ Below w.heap.size w w' := by
  have hN := rnext_any b s x w hx hr hp
  generalize (nx (s.data.toList.drop x.at')).1 = c at *
  generalize (nx (s.data.toList.drop x.at')).2 = n at *
  have HN := Lib.hid hN
  clear hN hx hr
  go_enter Tryz.func140, Tryz.ntmps140
  go_wp2_with (go_at_call 130; refine HN.out.mono ?_; rintro e w1 ⟨rfl, hb1⟩)
  go_ret
  refine ⟨ret_bool ?_, hb1⟩
  simp
  omega
/-- may a name go on with what stands there? -/
def goesP (dash : Bool) (l : List UInt8) : Bool := decide (0 < (nx l).2) && (partC (nx l).1 || (dash && decide ((nx l).1 = 45)))
/-- how long a name's rest is. -/
def partLen (dash : Bool) : Nat → List UInt8 → Nat
  | 0, _ => 0
  | f + 1, l => if goesP dash l = true then (nx l).2.toNat + partLen dash f (l.drop (nx l).2.toNat) else 0
theorem goesP_pos {dash : Bool} {l : List UInt8} (h : goesP dash l = true) : ∃ n : Nat, (nx l).2 = n ∧ 0 < n ∧ n ≤ l.length ∧ n ≤ 4 := by
  unfold goesP at h
  simp only [Bool.and_eq_true, decide_eq_true_eq] at h
  obtain ⟨n, h1, h2, h3, _⟩ := nx_pos (l := l) (by omega)
  exact ⟨n, h1, by omega, h2, h3⟩
theorem partLen_le (dash : Bool) : ∀ (f : Nat) (l : List UInt8), partLen dash f l ≤ l.length
  | 0, _ => Nat.zero_le _
  | f + 1, l => by
    rw [partLen]
    split
    · rename_i h
      obtain ⟨n, h1, h2, h3, _⟩ := goesP_pos h
      have := partLen_le dash f (l.drop (nx l).2.toNat)
      rw [List.length_drop] at this
      omega
    · omega
theorem partLen_fuel (dash : Bool) : ∀ (f g : Nat) (l : List UInt8), l.length ≤ f → l.length ≤ g → partLen dash f l = partLen dash g l
  | 0, g, l, h1, _ => by
    have : l = [] := List.length_eq_zero_iff.1 (by omega)
    subst this
    cases g with
    | zero => rfl
    | succ g => rfl
  | f + 1, 0, l, _, h2 => by
    have : l = [] := List.length_eq_zero_iff.1 (by omega)
    subst this
    rfl
  | f + 1, g + 1, l, h1, h2 => by
    rw [partLen, partLen]
    by_cases h : goesP dash l = true
    · obtain ⟨n, h3, h4, h5, _⟩ := goesP_pos h
      rw [if_pos h, if_pos h, partLen_fuel dash f g _ (by rw [List.length_drop]; omega) (by rw [List.length_drop]; omega)]
    · rw [if_neg h, if_neg h]
/-- a name's rest, of a text. -/
def partsL (dash : Bool) (l : List UInt8) : Nat := partLen dash l.length l
theorem partsL_yes {dash : Bool} {l : List UInt8} (h : goesP dash l = true) : partsL dash l = (nx l).2.toNat + partsL dash (l.drop (nx l).2.toNat) := by
  obtain ⟨n, h1, h2, h3, _⟩ := goesP_pos h
  unfold partsL
  cases hl : l.length with
  | zero => omega
  | succ k =>
    rw [partLen, if_pos h]
    congr 1
    refine partLen_fuel dash _ _ _ ?_ (Nat.le_refl _)
    rw [List.length_drop]
    omega
theorem partsL_no {dash : Bool} {l : List UInt8} (h : goesP dash l = false) : partsL dash l = 0 := by
  unfold partsL
  cases l.length with
  | zero => rfl
  | succ k => rw [partLen, if_neg (by rw [h]; decide)]
/-- how long a name is. -/
def nameL (dash : Bool) (l : List UInt8) : Nat := if 0 < (nx l).2 ∧ startC (nx l).1 = true then partsL dash l else 0
theorem goesP_start {dash : Bool} {l : List UInt8} (h : 0 < (nx l).2 ∧ startC (nx l).1 = true) : goesP dash l = true := by
  unfold goesP partC
  rw [decide_eq_true h.1, h.2]
  rfl
set_option maxRecDepth 20000 in
set_option maxHeartbeats 2000000 in
theorem name_no (b : Nat) (s : ByteArray) (x : Rd) (dash : Bool) (w : World) (hx : RdAt w b s x) (hr : Ready b w) (hp : x.at' ≤ s.size) (hn : ¬ (0 < (nx (s.data.toList.drop x.at')).2 ∧ startC (nx (s.data.toList.drop x.at')).1 = true)) :
    Calls Tryz.prog 139 #[.pointer (some ⟨b, 0, none⟩), .bool dash] w fun e w' => e = .returned (.bool false) ∧ Below w.heap.size w w' := by
  have hN := rnext_any b s x w hx hr hp
  generalize (nx (s.data.toList.drop x.at')).1 = c at *
  generalize (nx (s.data.toList.drop x.at')).2 = n at *
  have HN := Lib.hid hN
  clear hN hx hr
  by_cases h0 : 0 < n
  · have hst : startC c = false := by
      cases h : startC c with
      | false => rfl
      | true => exact absurd ⟨h0, h⟩ hn
    have hS := fun W => start_any c W
    rw [hst] at hS
    have HS := Lib.hid hS
    clear hn hS hst
    go_enter Tryz.func139, Tryz.ntmps139
    go_wp2_with (first | (go_at_call 130; refine HN.out.mono ?_; rintro e w1 ⟨rfl, hb1⟩) | (go_at_call 72; refine (HS.out _).mono ?_; rintro e w2 ⟨rfl, hb2⟩))
    go_ret
    exact ⟨rfl, bel_next hb1 hb2⟩
  · clear hn
    go_enter Tryz.func139, Tryz.ntmps139
    go_wp2_with (go_at_call 130; refine HN.out.mono ?_; rintro e w1 ⟨rfl, hb1⟩)
    go_ret
    exact ⟨rfl, hb1⟩
def rdPos (w : World) (b : Nat) : Nat := match w.cell? ⟨b, 0, none⟩ with
  | some (.int _ z) => z.toNat
  | _ => 0
theorem RdAt.pos {w : World} {b : Nat} {s : ByteArray} {x : Rd} (h : RdAt w b s x) : rdPos w b = x.at' := by
  unfold rdPos
  rw [h.cell 0]
  rfl
def NmRel (dash : Bool) (b : Nat) (s : ByteArray) (p : Nat) (line : Bool) (fl cd : Int) (w wr : World) (k : Nat) : Prop :=
  k ≤ s.size ∧ p ≤ k ∧ RdAt wr b s ⟨k, line, fl, cd⟩ ∧ But b w wr ∧ Ready b wr ∧ k + partsL dash (s.data.toList.drop k) = p + partsL dash (s.data.toList.drop p)
set_option maxRecDepth 20000 in
set_option maxHeartbeats 2000000 in
theorem name_yes (b : Nat) (s : ByteArray) (x : Rd) (dash : Bool) (w : World) (hx : RdAt w b s x) (hr : Ready b w) (hs : s.size ≤ 16777216) (hp : x.at' ≤ s.size) (hn : 0 < (nx (s.data.toList.drop x.at')).2 ∧ startC (nx (s.data.toList.drop x.at')).1 = true) :
    Calls Tryz.prog 139 #[.pointer (some ⟨b, 0, none⟩), .bool dash] w fun e w' => e = .returned (.bool true) ∧ RdAt w' b s { x with at' := x.at' + nameL dash (s.data.toList.drop x.at') } ∧ But b w w' := by
  have hL : nameL dash (s.data.toList.drop x.at') = partsL dash (s.data.toList.drop x.at') := by unfold nameL; rw [if_pos hn]
  rw [hL]
  have hN := rnext_any b s x w hx hr hp
  obtain ⟨p, line, fl, cd⟩ := x
  simp only at hp hN hn ⊢
  obtain ⟨q, hq⟩ : ∃ q, nx (s.data.toList.drop p) = q := ⟨_, rfl⟩
  rw [hq] at hN hn
  obtain ⟨c, n⟩ := q
  simp only at hN hn
  obtain ⟨h0, hst⟩ := hn
  have hS := fun W => start_any c W
  rw [hst] at hS
  have HS := Lib.hid hS
  have HN := Lib.hid hN
  have HX := Lib.hid hx
  have HR := Lib.hid hr
  have hbl := hx.lt
  have HQ := Lib.hid hq
  clear hS hst hN hx hr hq hL
  go_enter Tryz.func139, Tryz.ntmps139
  go_upto_region 4 with (first | (go_at_call 130; refine HN.out.mono ?_; rintro e w1 ⟨rfl, hb1⟩) | (go_at_call 72; refine (HS.out _).mono ?_; rintro e w2 ⟨rfl, hb2⟩))
  have hb := bel_next hb1 hb2
  have hrel0 : NmRel dash b s p line fl cd w w2 p := ⟨hp, Nat.le_refl _, HX.out.bel hb, .of_below hb, HR.out.next hbl hb, rfl⟩
  clear HS HN hb hb1 hb2 HX HR
  go_loopw [5, 6] (fun cv nv wr => ∃ k : Nat, cv = .int .i64 (nx (s.data.toList.drop k)).1 ∧ nv = .int .i64 (nx (s.data.toList.drop k)).2 ∧ NmRel dash b s p line fl cd w wr k) (fun _ _ wr => s.size - rdPos wr b)
  case atStart => exact ⟨p, by rw [HQ.out], by rw [HQ.out], hrel0⟩
  case round =>
    obtain ⟨k, rfl, rfl, hk, hpk, hx, hbut, hrd, heq⟩ := hrel
    have HPOS := Lib.hid hx.pos
    clear hrel0 HQ
    cases hg : goesP dash (s.data.toList.drop k) with
    | true =>
      have hy := partsL_yes hg
      obtain ⟨m, hm, hm0, hml, hm4⟩ := goesP_pos hg
      rw [List.length_drop, ofl] at hml
      rw [hm, Int.toNat_natCast, List.drop_drop] at hy
      unfold goesP at hg
      simp only [Bool.and_eq_true, Bool.or_eq_true, decide_eq_true_eq] at hg
      have HNX := Lib.hid (fun W hx hr => rnext_any b s ⟨k + m, line, fl, cd⟩ W hx hr (by simp only; omega))
      have HEQ := Lib.hid (show (k + m) + partsL dash (s.data.toList.drop (k + m)) = p + partsL dash (s.data.toList.drop p) by omega)
      have hcase : partC (nx (s.data.toList.drop k)).1 = true ∨ (partC (nx (s.data.toList.drop k)).1 = false ∧ dash = true ∧ (nx (s.data.toList.drop k)).1 = 45) := by
        cases hpc : partC (nx (s.data.toList.drop k)).1 with
        | true => exact .inl rfl
        | false =>
          rcases hg.2 with h | h
          · rw [hpc] at h; cases h
          · exact .inr ⟨rfl, h.1, h.2⟩
      have hP := fun W => part_any (nx (s.data.toList.drop k)).1 W
      rw [hm]
      generalize hc1 : (nx (s.data.toList.drop k)).1 = c1 at *
      have HX := Lib.hid hx
      have HR := Lib.hid hrd
      have HB := Lib.hid hbut
      have hbk := hx.lt
      clear hg hy heq hm hc1 hx hrd hbut
      rcases hcase with hc | ⟨hc, rfl, rfl⟩
      · rw [hc] at hP
        have HP := Lib.hid hP
        clear hP hc
        go_upto_region 5 with (go_at_call 71; refine (HP.out _).mono ?_; rintro e w3 ⟨rfl, hb3⟩)
        have HX3 := Lib.hid (HX.out.bel hb3)
        have HR3 := Lib.hid (HR.out.next hbk hb3)
        have hB3 := HB.out.bel hb3
        obtain ⟨c0, c1', c2, c3, c4, f0, f1, f2, f3, f4⟩ := RdAt.facts HX3.out
        clear HX HR HB HP
        go_upto_region 6 with fail
        have HX4 := Lib.hid (RdAt.set (y := ⟨k + m, line, fl, cd⟩) HX3.out 0 (.int .i64 ((k : Int) + (m : Int))) rfl)
        have HR4 := Lib.hid (HR3.out.but HX3.out.lt ((But.refl b w3).setCell 0 (.int .i64 ((k : Int) + (m : Int)))))
        have hB4 := hB3.setCell 0 (.int .i64 ((k : Int) + (m : Int)))
        clear c0 c1' c2 c3 c4 f0 f1 f2 f3 f4 HX3 HR3 hB3
        generalize w3.setCell ⟨b, 0, none⟩ (.int .i64 ((k : Int) + (m : Int))) = w4 at *
        go_wp2_with (go_at_call 130; refine (HNX.out _ HX4.out HR4.out).mono ?_; rintro e w5 ⟨rfl, hb5⟩)
        have HX5 := Lib.hid (HX4.out.bel hb5)
        have HR5 := Lib.hid (HR4.out.next HX4.out.lt hb5)
        have hB5 := hB4.bel hb5
        go_roundw
        case rel => exact ⟨k + m, rfl, rfl, by omega, by omega, HX5.out, hB5, HR5.out, HEQ.out⟩
        case measure => rw [HX5.out.pos, HPOS.out]; simp only; omega
      · rw [hc] at hP
        have HP := Lib.hid hP
        clear hP hc
        go_upto_region 5 with (go_at_call 71; refine (HP.out _).mono ?_; rintro e w3 ⟨rfl, hb3⟩)
        have HX3 := Lib.hid (HX.out.bel hb3)
        have HR3 := Lib.hid (HR.out.next hbk hb3)
        have hB3 := HB.out.bel hb3
        obtain ⟨c0, c1', c2, c3, c4, f0, f1, f2, f3, f4⟩ := RdAt.facts HX3.out
        clear HX HR HB HP
        go_upto_region 6 with fail
        have HX4 := Lib.hid (RdAt.set (y := ⟨k + m, line, fl, cd⟩) HX3.out 0 (.int .i64 ((k : Int) + (m : Int))) rfl)
        have HR4 := Lib.hid (HR3.out.but HX3.out.lt ((But.refl b w3).setCell 0 (.int .i64 ((k : Int) + (m : Int)))))
        have hB4 := hB3.setCell 0 (.int .i64 ((k : Int) + (m : Int)))
        clear c0 c1' c2 c3 c4 f0 f1 f2 f3 f4 HX3 HR3 hB3
        generalize w3.setCell ⟨b, 0, none⟩ (.int .i64 ((k : Int) + (m : Int))) = w4 at *
        go_wp2_with (go_at_call 130; refine (HNX.out _ HX4.out HR4.out).mono ?_; rintro e w5 ⟨rfl, hb5⟩)
        have HX5 := Lib.hid (HX4.out.bel hb5)
        have HR5 := Lib.hid (HR4.out.next HX4.out.lt hb5)
        have hB5 := hB4.bel hb5
        go_roundw
        case rel => exact ⟨k + m, rfl, rfl, by omega, by omega, HX5.out, hB5, HR5.out, HEQ.out⟩
        case measure => rw [HX5.out.pos, HPOS.out]; simp only; omega
    | false =>
      have hno := partsL_no hg
      have HEQ := Lib.hid (show k = p + partsL dash (s.data.toList.drop p) by omega)
      unfold goesP at hg
      generalize (nx (s.data.toList.drop k)).1 = c1 at *
      generalize (nx (s.data.toList.drop k)).2 = n1 at *
      have HX := Lib.hid hx
      have HB := Lib.hid hbut
      clear hno heq hx hbut hrd
      by_cases hn1 : 0 < n1
      · rw [decide_eq_true hn1, Bool.true_and, Bool.or_eq_false_iff] at hg
        obtain ⟨hg1, hg2⟩ := hg
        have hP := fun W => part_any c1 W
        rw [hg1] at hP
        have HP := Lib.hid hP
        clear hP hg1
        cases dash with
        | true =>
          have h45 : (c1 == 45) = false := by
            rw [Bool.true_and, decide_eq_false_iff_not] at hg2
            rw [beq_eq_false_iff_ne]
            exact hg2
          clear hg2
          go_wp2_with (go_at_call 71; refine (HP.out _).mono ?_; rintro e w3 ⟨rfl, hb3⟩)
          go_ret
          exact ⟨rfl, by rw [← HEQ.out]; exact HX.out.bel hb3, HB.out.bel hb3⟩
        | false =>
          clear hg2
          go_wp2_with (go_at_call 71; refine (HP.out _).mono ?_; rintro e w3 ⟨rfl, hb3⟩)
          go_ret
          exact ⟨rfl, by rw [← HEQ.out]; exact HX.out.bel hb3, HB.out.bel hb3⟩
      · clear hg
        go_wp2_with fail
        go_ret
        exact ⟨rfl, by rw [← HEQ.out]; exact HX.out, HB.out⟩
end Go.Proofs.YteejjkfmmhegmaaGreatDoor
