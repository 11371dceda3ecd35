/- Contracts of lex.puncts and of the reader's punct. Conditions as in ..LC; the table of ASCII blanks lies as it is laid. -/
import Derived.Test.YteejjkfmmhegmaaGreatDoorLPD
import Derived.Lib.SmallJoins
import Derived.Lib.LaidTab
namespace Go.Proofs.YteejjkfmmhegmaaGreatDoor
open Go.RowKit

/-- the library's table of blanks lies as it is laid. -/
def Spc (b : Nat) (w : World) : Prop := ∃ w0 : World, w0.heap.size ≤ b ∧ Lib.TabIs Tryz.prog w0 "strings.asciiSpace" .u8 Lib.asciiSpaceTab ∧ Below w0.heap.size w0 w
theorem Spc.tab {b : Nat} {w : World} (h : Spc b w) : Lib.TabIs Tryz.prog w "strings.asciiSpace" .u8 Lib.asciiSpaceTab := by
  obtain ⟨w0, _, h1, h2⟩ := h
  exact Joins.tab_stays (g := 0) (by kernel_rfl) h1 h2 (Nat.le_refl _)
theorem Spc.bel {b : Nat} {w w' : World} (h : Spc b w) (hb : Below b w w') : Spc b w' := by
  obtain ⟨w0, h0, h1, h3⟩ := h
  exact ⟨w0, h0, h1, h3.trans (hb.mono h0)⟩
theorem Spc.but {b : Nat} {w w' : World} (h : Spc b w) (hl : b < w.heap.size) (hb : But b w w') : Spc b w' := h.bel (hb.below (Nat.le_refl _) (Nat.le_of_lt hl))
def pctText : ByteArray := ⟨(([62, 62, 62, 61, 32, 46, 46, 46, 32, 61, 61, 61, 32, 33, 61, 61, 32, 42, 42, 61, 32, 60, 60, 61, 32, 62, 62, 61, 32, 62, 62, 62, 32, 38, 38, 61, 32, 124].append [124, 61, 32, 63, 63, 61, 32, 60, 61, 32, 62, 61, 32, 61, 61, 32, 33, 61, 32, 42, 42, 32, 43, 43, 32, 45, 45, 32, 60, 60, 32, 62, 62, 32, 38, 38, 32, 124]).append ([124, 32, 63, 63, 32, 63, 46, 32, 43, 61, 32, 45, 61, 32, 42, 61, 32, 37, 61, 32, 38, 61, 32, 124, 61, 32, 94, 61, 32, 61, 62, 32, 123, 32, 125, 32, 40, 32].append [41, 32, 91, 32, 93, 32, 46, 32, 59, 32, 44, 32, 60, 32, 62, 32, 43, 32, 45, 32, 42, 32, 37, 32, 38, 32, 124, 32, 94, 32, 33, 32, 126, 32, 63, 32, 58, 32, 61])).toArray⟩
theorem pct_fields : Lib.fields pctText.data.toList = pctRow := by decide +kernel
theorem pct_ascii : ∀ (j : Nat) b, pctText.data.toList[j]? = some b → b.toNat < 128 := by
  have h : ∀ b ∈ pctText.data.toList, b.toNat < 128 := by decide +kernel
  intro j b hj
  exact h b (List.mem_of_getElem? hj)
def pctObj : Obj := .cells (pctRow.map fun l => Value.string ⟨l.toArray⟩).toArray 9
set_option maxRecDepth 20000 in
set_option maxHeartbeats 1000000 in
theorem puncts_any (w : World) (h : Lib.TabIs Tryz.prog w "strings.asciiSpace" .u8 Lib.asciiSpaceTab) :
    Calls Tryz.prog 158 #[] w fun e w' => e = .returned (.slice (some ⟨w.heap.size, 0, none⟩) 55 55) ∧ w' = w.alloc pctObj := by
  have hf := Tryz.strings_Fields pctText w (by decide +kernel) pct_ascii h
  rw [pct_fields] at hf
  have hl : pctRow.length = 55 := by decide +kernel
  rw [hl] at hf
  have HF := Lib.hid hf
  clear hf h
  unfold pctText at HF
  go_enter Tryz.func158, Tryz.ntmps158
  go_wp2_with (go_at_call 77; refine HF.out.mono ?_; rintro e w' ⟨rfl, rfl⟩)
  go_ret
  exact ⟨rfl, rfl⟩
theorem pct_cell (w : World) (j : Nat) (h : j < pctRow.length) : (w.alloc pctObj).cell? ⟨w.heap.size, j, none⟩ = some (.string ⟨(pctRow[j]).toArray⟩) := by
  have h1 := heap_alloc_new w pctObj
  simp only [World.cell?]
  rw [h1]
  simp [pctObj, h]
/-- what punct answers. -/
def PcPost (b : Nat) (s : ByteArray) (p : Nat) (line : Bool) (fl : Int) (w : World) (n : Nat) (e : Ending) (w' : World) : Prop :=
  e = .returned (.bool (decide (n ≠ 0))) ∧ Tst b s w ⟨p + n, line, fl, 0⟩ w'
def SlAt (w : World) (A : Nat) : Prop := w.heap[A]? = some (.cells #[.string ⟨#[47, 61]⟩, .string ⟨#[47]⟩] 9 (0, 0))
theorem SlAt.bel {w w' : World} {A : Nat} (h : SlAt w A) (hb : Below w.heap.size w w') : SlAt w' A := (hb.block A (Array.getElem?_eq_some_iff.1 h).1).trans h
theorem SlAt.facts {w : World} {A : Nat} (h : SlAt w A) : w.cell? ⟨A, 0, none⟩ = some (.string ⟨#[47, 61]⟩) ∧ w.cell? ⟨A, 1, none⟩ = some (.string ⟨#[47]⟩) := by
  unfold SlAt at h
  constructor <;> simp [World.cell?, h]
set_option maxRecDepth 20000 in
set_option maxHeartbeats 2000000 in
/-- / and /= where a division may stand. -/
theorem punct_slash (b : Nat) (s : ByteArray) (p : Nat) (line : Bool) (fl : Int) (w : World) (hx : RdAt w b s ⟨p, line, fl, 0⟩) (hr : Ready b w) (hs : s.size ≤ 16777216) (hp : p ≤ s.size) (h47 : Lib.hasPrefix (s.data.toList.drop p) [47] = true) :
    Calls Tryz.prog 145 #[.pointer (some ⟨b, 0, none⟩), .int .i64 1] w fun e w' => PcPost b s p line fl w (pct 1 (s.data.toList.drop p)) e w' := by
  have HK := Lib.hid (show Tst b s w ⟨p, line, fl, 0⟩ w from ⟨hx, But.refl _ _, hr, hp⟩)
  clear hx hr
  obtain ⟨c0, c1, c2, c3, c4, f0, f1, f2, f3, f4⟩ := RdAt.facts HK.out.rd
  have hst0 := HK.out.bel (Below.alloc (Below.refl _ w) (Nat.le_refl _) (.cells #[.string ⟨#[47, 61]⟩, .string ⟨#[47]⟩] 9))
  have hsl0 : SlAt (w.alloc (.cells #[.string ⟨#[47, 61]⟩, .string ⟨#[47]⟩] 9)) w.heap.size := heap_alloc_new _ _
  go_enter Tryz.func145, Tryz.ntmps145
  go_wp2_with fail
  go_step3
  go_wp2_with fail
  clear c0 c1 c2 c3 c4 f0 f1 f2 f3 f4 HK
  go_loopw [6, 13] (fun _ i wr => ∃ j : Nat, (j = 0 ∨ (j = 1 ∧ Lib.hasPrefix (s.data.toList.drop p) [47, 61] = false)) ∧ i = .int .i64 (j : Nat) ∧ Tst b s w ⟨p, line, fl, 0⟩ wr ∧ SlAt wr w.heap.size) (fun _ i _ => 2 - (intOf i).toNat)
  case atStart => exact ⟨0, .inl rfl, rfl, hst0, hsl0⟩
  case round =>
    clear hst0 hsl0
    obtain ⟨j, hj, rfl, hst, hsl⟩ := hrel
    obtain ⟨e0, e1⟩ := hsl.facts
    have HK := Lib.hid hst
    have HSL := Lib.hid hsl
    clear hst hsl
    obtain ⟨c0, c1, c2, c3, c4, f0, f1, f2, f3, f4⟩ := RdAt.facts HK.out.rd
    rcases hj with rfl | ⟨rfl, h2⟩
    · cases h2 : Lib.hasPrefix (s.data.toList.drop p) [47, 61] with
      | true =>
        have hl := prefix_len h2
        rw [List.length_drop, ofl] at hl
        have hl1 : p + 2 ≤ s.size := by simp at hl; omega
        have HN := Lib.hid (show pct 1 (s.data.toList.drop p) = 2 by unfold pct; rw [if_pos ⟨rfl, h2⟩])
        clear hl
        go_upto_region 6 with (go_at_call 136; refine (is_lit b s _ _ _ HK.out.rd HK.out.le).mono ?_; rintro e w9 ⟨rfl, hb⟩; clear c0 c1 c2 c3 c4 f0 f1 f2 f3 f4; replace HK := Lib.hid (HK.out.bel hb); replace HSL := Lib.hid (HSL.out.bel hb); obtain ⟨e0, e1⟩ := HSL.out.facts; clear hb; obtain ⟨c0, c1, c2, c3, c4, f0, f1, f2, f3, f4⟩ := RdAt.facts HK.out.rd)
        have hk1 := HK.out.setRd (y := ⟨p + 2, line, fl, 0⟩) 0 (.int .i64 ((p : Int) + 2)) rfl hl1
        go_wp2_with fail
        try rw [Exit.noGoto_ret]
        go_ret
        unfold PcPost
        rw [HN.out]
        exact ⟨rfl, hk1⟩
      | false =>
        go_wp2_with (go_at_call 136; refine (is_lit b s _ _ _ HK.out.rd HK.out.le).mono ?_; rintro e w9 ⟨rfl, hb⟩; clear c0 c1 c2 c3 c4 f0 f1 f2 f3 f4; replace HK := Lib.hid (HK.out.bel hb); replace HSL := Lib.hid (HSL.out.bel hb); obtain ⟨e0, e1⟩ := HSL.out.facts; clear hb; obtain ⟨c0, c1, c2, c3, c4, f0, f1, f2, f3, f4⟩ := RdAt.facts HK.out.rd)
        go_roundw
        case rel => exact ⟨1, .inr ⟨rfl, by first | exact h2 | trivial⟩, rfl, HK.out, HSL.out⟩
        case measure => simp [intOf]
    · have hl := prefix_len h47
      rw [List.length_drop, ofl] at hl
      have hl1 : p + 1 ≤ s.size := by simp at hl; omega
      have HN := Lib.hid (show pct 1 (s.data.toList.drop p) = 1 by unfold pct; rw [if_neg (by rw [h2]; simp), if_pos ⟨rfl, h47⟩])
      clear hl
      go_upto_region 6 with (go_at_call 136; refine (is_lit b s _ _ _ HK.out.rd HK.out.le).mono ?_; rintro e w9 ⟨rfl, hb⟩; clear c0 c1 c2 c3 c4 f0 f1 f2 f3 f4; replace HK := Lib.hid (HK.out.bel hb); replace HSL := Lib.hid (HSL.out.bel hb); obtain ⟨e0, e1⟩ := HSL.out.facts; clear hb; obtain ⟨c0, c1, c2, c3, c4, f0, f1, f2, f3, f4⟩ := RdAt.facts HK.out.rd)
      have hk1 := HK.out.setRd (y := ⟨p + 1, line, fl, 0⟩) 0 (.int .i64 ((p : Int) + 1)) rfl hl1
      go_wp2_with fail
      try rw [Exit.noGoto_ret]
      go_ret
      unfold PcPost
      rw [HN.out]
      exact ⟨rfl, hk1⟩
theorem no_slash2 {l : List UInt8} (h : Lib.hasPrefix l [47] = false) : Lib.hasPrefix l [47, 61] = false := by
  cases l with
  | nil => rfl
  | cons a t =>
    have h1 : ((47 : UInt8) == a && true) = false := h
    show ((47 : UInt8) == a && _) = false
    rw [Bool.and_true] at h1
    rw [h1]
    rfl
theorem pct_find (l : List UInt8) (goal : Int) (h : ¬ (goal = 1 ∧ Lib.hasPrefix l [47] = true)) : pct goal l = match pctRow.find? (pctIs l) with
    | some w => w.length
    | none => 0 := by
  have h2 : ¬ (goal = 1 ∧ Lib.hasPrefix l [47, 61] = true) := by
    rintro ⟨h1, h2⟩
    apply h
    refine ⟨h1, ?_⟩
    cases h3 : Lib.hasPrefix l [47] with
    | true => rfl
    | false => rw [no_slash2 h3] at h2; cases h2
  unfold pct
  rw [if_neg h2, if_neg h]
  cases pctRow.find? (pctIs l) <;> rfl
theorem pct_pos : ∀ w ∈ pctRow, w.length ≠ 0 := by decide +kernel
theorem pct_at {w : World} {A : Nat} (h : w.heap[A]? = some pctObj) (j : Nat) (hj : j < pctRow.length) : w.cell? ⟨A, j, none⟩ = some (.string ⟨(pctRow[j]).toArray⟩) := by
  simp only [World.cell?]
  rw [h]
  simp [pctObj, hj]
set_option maxRecDepth 20000 in
set_option maxHeartbeats 4000000 in
theorem punct_row (b : Nat) (s : ByteArray) (p : Nat) (line : Bool) (fl : Int) (goal : Int) (w : World) (hx : RdAt w b s ⟨p, line, fl, 0⟩) (hr : Ready b w) (hS : Spc b w) (hs : s.size ≤ 16777216) (hp : p ≤ s.size) (hno : ¬ (goal = 1 ∧ Lib.hasPrefix (s.data.toList.drop p) [47] = true)) :
    Calls Tryz.prog 145 #[.pointer (some ⟨b, 0, none⟩), .int .i64 goal] w fun e w' => PcPost b s p line fl w (pct goal (s.data.toList.drop p)) e w' := by
  have HK := Lib.hid (show Tst b s w ⟨p, line, fl, 0⟩ w from ⟨hx, But.refl _ _, hr, hp⟩)
  have hbl := hx.lt
  have HO := Lib.hid (pct_find (s.data.toList.drop p) goal hno)
  have HS := Lib.hid hS
  have HNO := Lib.hid hno
  clear hx hr hS hno
  generalize pct goal (s.data.toList.drop p) = O at *
  obtain ⟨c0, c1, c2, c3, c4, f0, f1, f2, f3, f4⟩ := RdAt.facts HK.out.rd
  go_enter Tryz.func145, Tryz.ntmps145
  go_wp2_with fail
  go_step3
  go_upto_if 10 with fail
  go_cut [] from 11 to 31 (fun wx => Tst b s w ⟨p, line, fl, 0⟩ wx)
  case first =>
    by_cases hg1 : goal = 1
    · subst hg1
      have h47 : Lib.hasPrefix (s.data.toList.drop p) [47] = false := by
        cases h : Lib.hasPrefix (s.data.toList.drop p) [47] with
        | false => rfl
        | true => exact absurd ⟨rfl, h⟩ HNO.out
      have h2 := no_slash2 h47
      have hst0 := HK.out.bel (Below.alloc (Below.refl _ w) (Nat.le_refl _) (.cells #[.string ⟨#[47, 61]⟩, .string ⟨#[47]⟩] 9))
      have hsl0 : SlAt (w.alloc (.cells #[.string ⟨#[47, 61]⟩, .string ⟨#[47]⟩] 9)) w.heap.size := heap_alloc_new _ _
      clear HO HNO
      go_wp2_with fail
      clear c0 c1 c2 c3 c4 f0 f1 f2 f3 f4 HK
      go_loopw [6, 13] (fun _ i wr => ∃ j : Nat, (j = 0 ∨ j = 1 ∨ j = 2) ∧ i = .int .i64 (j : Nat) ∧ Tst b s w ⟨p, line, fl, 0⟩ wr ∧ SlAt wr w.heap.size) (fun _ i _ => 2 - (intOf i).toNat)
      case atStart => exact ⟨0, .inl rfl, rfl, hst0, hsl0⟩
      case round =>
        clear hst0 hsl0
        obtain ⟨j, hj, rfl, hst, hsl⟩ := hrel
        obtain ⟨e0, e1⟩ := hsl.facts
        have HK := Lib.hid hst
        have HSL := Lib.hid hsl
        clear hst hsl
        obtain ⟨c0, c1, c2, c3, c4, f0, f1, f2, f3, f4⟩ := RdAt.facts HK.out.rd
        rcases hj with rfl | rfl | rfl
        · go_wp2_with (go_at_call 136; refine (is_lit b s _ _ _ HK.out.rd HK.out.le).mono ?_; rintro e w9 ⟨rfl, hb⟩; clear c0 c1 c2 c3 c4 f0 f1 f2 f3 f4; replace HK := Lib.hid (HK.out.bel hb); replace HSL := Lib.hid (HSL.out.bel hb); obtain ⟨e0, e1⟩ := HSL.out.facts; clear hb; obtain ⟨c0, c1, c2, c3, c4, f0, f1, f2, f3, f4⟩ := RdAt.facts HK.out.rd)
          go_roundw
          case rel =>
            repeat apply Exists.intro
            exact ⟨⟨1, .inr (.inl rfl), rfl, HK.out, HSL.out⟩, rfl⟩
          case measure => simp [intOf]
        · go_wp2_with (go_at_call 136; refine (is_lit b s _ _ _ HK.out.rd HK.out.le).mono ?_; rintro e w9 ⟨rfl, hb⟩; clear c0 c1 c2 c3 c4 f0 f1 f2 f3 f4; replace HK := Lib.hid (HK.out.bel hb); replace HSL := Lib.hid (HSL.out.bel hb); obtain ⟨e0, e1⟩ := HSL.out.facts; clear hb; obtain ⟨c0, c1, c2, c3, c4, f0, f1, f2, f3, f4⟩ := RdAt.facts HK.out.rd)
          go_roundw
          case rel =>
            repeat apply Exists.intro
            exact ⟨⟨2, .inr (.inr rfl), rfl, HK.out, HSL.out⟩, rfl⟩
          case measure => simp [intOf]
        · go_wp2_with fail
          go_meet
          exact HK.out
    · have bg : (goal == 1) = false := by rw [beq_eq_false_iff_ne]; exact hg1
      clear hg1
      go_wp2_with fail
      go_meet
      exact HK.out
  case rest =>
    have HK2 := Lib.hid hcut
    clear hcut c0 c1 c2 c3 c4 f0 f1 f2 f3 f4 HK HNO
    have HK := Lib.hid HK2.out
    clear HK2
    obtain ⟨c0, c1, c2, c3, c4, f0, f1, f2, f3, f4⟩ := RdAt.facts HK.out.rd
    have hpu := puncts_any wc (HS.out.but hbl HK.out.but).tab
    have hcl : pctRow.length = 55 := by decide +kernel
    have HPU := Lib.hid hpu
    clear hpu
    go_wp2_with fail
    go_step3
    go_wp2_with (go_at_call 158; refine HPU.out.mono ?_; rintro e w9 ⟨rfl, rfl⟩; have hA : (wc.alloc pctObj).heap[wc.heap.size]? = some pctObj := heap_alloc_new _ _; replace HK := Lib.hid (HK.out.bel (Below.alloc (Below.refl _ wc) (Nat.le_refl _) pctObj)); generalize wc.alloc pctObj = w2 at *; generalize wc.heap.size = A at *)
    clear c0 c1 c2 c3 c4 f0 f1 f2 f3 f4 HPU
    go_loopw [8, 34, 38, 43] (fun _ i _ _ wr => ∃ j : Nat, j ≤ 55 ∧ i = .int .i64 (j : Nat) ∧ Tst b s w ⟨p, line, fl, 0⟩ wr ∧ wr.heap[A]? = some pctObj ∧ pctRow.find? (pctIs (s.data.toList.drop p)) = (pctRow.drop j).find? (pctIs (s.data.toList.drop p))) (fun _ i _ _ _ => 55 - (intOf i).toNat)
    case atStart => exact ⟨0, Nat.zero_le _, rfl, HK.out, hA, by rw [List.drop_zero]⟩
    case round =>
      clear hA HK
      obtain ⟨j, hj, rfl, hst, hA, heq⟩ := hrel
      have HK := Lib.hid hst
      clear hst
      obtain ⟨c0, c1, c2, c3, c4, f0, f1, f2, f3, f4⟩ := RdAt.facts HK.out.rd
      by_cases hlt : j < 55
      · have hcell := pct_at hA j (by omega)
        have hdr : pctRow.drop j = pctRow[j] :: pctRow.drop (j + 1) := List.drop_eq_getElem_cons (by omega)
        rw [hdr, List.find?_cons] at heq
        have hmem : (pctRow[j]'(by omega)).length ≠ 0 := pct_pos _ (List.getElem_mem _)
        generalize (pctRow[j]'(by omega)) = v at *
        have HEQ := Lib.hid heq
        have HA := Lib.hid hA
        clear heq hA hdr hcl
        cases hR : Lib.hasPrefix (s.data.toList.drop p) v with
        | false =>
          have HN := Lib.hid (HEQ.out.trans (by rw [show pctIs (s.data.toList.drop p) v = false by unfold pctIs; rw [hR]; rfl]))
          clear HEQ
          go_wp2_with (go_at_call 136; refine (is_lit b s _ _ _ HK.out.rd HK.out.le).mono ?_; rintro e w9 ⟨rfl, hb⟩; clear c0 c1 c2 c3 c4 f0 f1 f2 f3 f4; replace HK := Lib.hid (HK.out.bel hb); replace HA := Lib.hid ((hb.block A (Array.getElem?_eq_some_iff.1 HA.out).1).trans HA.out); clear hb; obtain ⟨c0, c1, c2, c3, c4, f0, f1, f2, f3, f4⟩ := RdAt.facts HK.out.rd)
          go_roundw
          case rel => exact ⟨j + 1, by omega, by go_num, HK.out, HA.out, HN.out⟩
          case measure => simp [intOf]; omega
        | true =>
          by_cases hv : v = [63, 46]
          · subst hv
            have HD := Lib.hid (fun W z hz => ldigit_any s (p + 2) W z hz)
            have hpi : pctIs (s.data.toList.drop p) [63, 46] = !digAt (s.data.toList.drop (p + 2)) := by unfold pctIs; rw [hR, List.drop_drop]; rfl
            cases hD : digAt (s.data.toList.drop (p + 2)) with
            | true =>
              have HN := Lib.hid (HEQ.out.trans (by rw [hpi, hD]))
              rw [hD] at HD
              clear HEQ hpi hmem
              go_upto_region 13 with (go_at_call 136; refine (is_lit b s _ _ _ HK.out.rd HK.out.le).mono ?_; rintro e w9 ⟨rfl, hb⟩; clear c0 c1 c2 c3 c4 f0 f1 f2 f3 f4; replace HK := Lib.hid (HK.out.bel hb); replace HA := Lib.hid ((hb.block A (Array.getElem?_eq_some_iff.1 HA.out).1).trans HA.out); clear hb; obtain ⟨c0, c1, c2, c3, c4, f0, f1, f2, f3, f4⟩ := RdAt.facts HK.out.rd)
              go_cut [43] from 44 to 58 (fun v wx => v = .bool true ∧ Tst b s w ⟨p, line, fl, 0⟩ wx ∧ wx.heap[A]? = some pctObj)
              case first =>
                go_quiet ((go_at_call 141; exact Calls.quiet_of_same ((HD.out _ _ (by omega)).mono (fun _ _ h => ⟨h.1, h.2.symm⟩))))
                go_wp2_with fail
                go_meet
                exact ⟨rfl, HK.out.bel (bel_drewN (Below.refl _ _) _), HA.out⟩
              case rest =>
                obtain ⟨rfl, hst, hA⟩ := hcut
                go_wp2_with fail
                go_roundw
                case rel => exact ⟨j + 1, by omega, by go_num, hst, hA, HN.out⟩
                case measure => simp [intOf]; omega
            | false =>
              have HN := Lib.hid (show O = 2 by rw [HO.out, HEQ.out, hpi, hD]; rfl)
              rw [hD] at HD
              clear HEQ hpi hmem HO
              go_upto_region 13 with (go_at_call 136; refine (is_lit b s _ _ _ HK.out.rd HK.out.le).mono ?_; rintro e w9 ⟨rfl, hb⟩; clear c0 c1 c2 c3 c4 f0 f1 f2 f3 f4; replace HK := Lib.hid (HK.out.bel hb); replace HA := Lib.hid ((hb.block A (Array.getElem?_eq_some_iff.1 HA.out).1).trans HA.out); clear hb; obtain ⟨c0, c1, c2, c3, c4, f0, f1, f2, f3, f4⟩ := RdAt.facts HK.out.rd)
              go_cut [43] from 44 to 58 (fun v wx => v = .bool false ∧ Tst b s w ⟨p, line, fl, 0⟩ wx ∧ wx.heap[A]? = some pctObj)
              case first =>
                go_quiet ((go_at_call 141; exact Calls.quiet_of_same ((HD.out _ _ (by omega)).mono (fun _ _ h => ⟨h.1, h.2.symm⟩))))
                go_wp2_with fail
                go_meet
                exact ⟨rfl, HK.out.bel (bel_drewN (Below.refl _ _) _), HA.out⟩
              case rest =>
                obtain ⟨rfl, hst, hA⟩ := hcut
                clear c0 c1 c2 c3 c4 f0 f1 f2 f3 f4 HK
                have HK := Lib.hid hst
                clear hst
                obtain ⟨c0, c1, c2, c3, c4, f0, f1, f2, f3, f4⟩ := RdAt.facts HK.out.rd
                have hl := prefix_len hR
                rw [List.length_drop, ofl] at hl
                have hl1 : p + 2 ≤ s.size := by simp at hl; omega
                clear hl
                have hk1 := HK.out.setRd (y := ⟨p + 2, line, fl, 0⟩) 0 (.int .i64 ((p : Int) + 2)) rfl hl1
                go_wp2_with fail
                try rw [Exit.noGoto_ret]
                go_ret
                unfold PcPost
                rw [HN.out]
                exact ⟨rfl, hk1⟩
          · have HN := Lib.hid (show O = v.length by
              rw [HO.out, HEQ.out, show pctIs (s.data.toList.drop p) v = true by
                unfold pctIs
                rw [hR, show (v == [63, 46]) = false by rw [beq_eq_false_iff_ne]; exact hv]
                rfl])
            have hvb : (v == [63, 46]) = false := by rw [beq_eq_false_iff_ne]; exact hv
            clear HEQ HO hv
            go_upto_region 13 with (go_at_call 136; refine (is_lit b s _ _ _ HK.out.rd HK.out.le).mono ?_; rintro e w9 ⟨rfl, hb⟩; clear c0 c1 c2 c3 c4 f0 f1 f2 f3 f4; replace HK := Lib.hid (HK.out.bel hb); replace HA := Lib.hid ((hb.block A (Array.getElem?_eq_some_iff.1 HA.out).1).trans HA.out); clear hb; obtain ⟨c0, c1, c2, c3, c4, f0, f1, f2, f3, f4⟩ := RdAt.facts HK.out.rd)
            go_cut [43] from 44 to 58 (fun v wx => v = .bool false ∧ Tst b s w ⟨p, line, fl, 0⟩ wx ∧ wx.heap[A]? = some pctObj)
            case first =>
              go_quiet (fail)
              go_wp2_with fail
              go_meet
              exact ⟨rfl, HK.out.bel (bel_drewN (Below.refl _ _) _), HA.out⟩
            case rest =>
              obtain ⟨rfl, hst, hA⟩ := hcut
              clear c0 c1 c2 c3 c4 f0 f1 f2 f3 f4 HK
              have HK := Lib.hid hst
              clear hst
              obtain ⟨c0, c1, c2, c3, c4, f0, f1, f2, f3, f4⟩ := RdAt.facts HK.out.rd
              have hl := prefix_len hR
              rw [List.length_drop, ofl] at hl
              have hl1 : p + v.length ≤ s.size := by omega
              clear hl
              have hsz : (⟨v.toArray⟩ : ByteArray).size = v.length := rfl
              have hk1 := HK.out.setRd (y := ⟨p + v.length, line, fl, 0⟩) 0 (.int .i64 ((p : Int) + (v.length : Int))) rfl hl1
              go_wp2_with fail
              try rw [Exit.noGoto_ret]
              go_ret
              unfold PcPost
              rw [HN.out]
              exact ⟨by rw [decide_eq_true hmem]; rfl, hk1⟩
      · obtain rfl : j = 55 := by omega
        have HN := Lib.hid (show O = 0 by rw [HO.out, heq, List.drop_of_length_le (show pctRow.length ≤ 55 by omega)]; rfl)
        clear heq
        go_wp2_with fail
        try rw [Exit.noGoto_ret]
        go_ret
        unfold PcPost
        rw [HN.out]
        exact ⟨rfl, HK.out⟩
theorem punct_any (b : Nat) (s : ByteArray) (p : Nat) (line : Bool) (fl : Int) (goal : Int) (w : World) (hx : RdAt w b s ⟨p, line, fl, 0⟩) (hr : Ready b w) (hS : Spc b w) (hs : s.size ≤ 16777216) (hp : p < s.size) :
    Calls Tryz.prog 145 #[.pointer (some ⟨b, 0, none⟩), .int .i64 goal] w fun e w' => PcPost b s p line fl w (pct goal (s.data.toList.drop p)) e w' := by
  by_cases h : goal = 1 ∧ Lib.hasPrefix (s.data.toList.drop p) [47] = true
  · obtain ⟨rfl, h2⟩ := h
    exact punct_slash b s p line fl w hx hr hs (Nat.le_of_lt hp) h2
  · exact punct_row b s p line fl goal w hx hr hS hs (Nat.le_of_lt hp) h
end Go.Proofs.YteejjkfmmhegmaaGreatDoor
