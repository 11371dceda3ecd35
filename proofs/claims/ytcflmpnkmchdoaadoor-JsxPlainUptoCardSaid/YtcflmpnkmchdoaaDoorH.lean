/- jsx.lines: the iterator that it hands back goes through a text's lines (a text up to 2^24 bytes). -/
import Derived.Test.YtcflmpnkmchdoaaDoorF
import Derived.Test.YtcflmpnkmchdoaaDoorG
import Derived.Test.YtcflmpnkmchdoaaDoorQ
namespace Go.Proofs.YtcflmpnkmchdoaaDoor
open Go.RowKit

/-- a text's lines, as texts. -/
def linesB (l : List UInt8) : List ByteArray := (linesL l).map fun x => ⟨x.toArray⟩
/-- how long the text in a box is. -/
def boxLen (bn : Nat) (w : World) : Nat := match w.cell? ⟨bn, 0, none⟩ with
  | some (Value.string r) => r.size
  | _ => 0
theorem boxLen_of {bn : Nat} {w : World} {t : TypeId} {r : ByteArray} (h : Boxed w bn t (.string r)) : boxLen bn w = r.size := by
  unfold boxLen
  rw [h.cell]
theorem hp_crlf (l : List UInt8) (i : Nat) (c : UInt8) (h : l[i]? = some c) : Lib.hasPrefix (l.drop i) [13, 10] = decide (c = 13 ∧ l[i + 1]? = some 10) := by
  have hlt : i < l.length := (List.getElem?_eq_some_iff.1 h).1
  rw [List.drop_eq_getElem_cons hlt]
  have hc : l[i] = c := (List.getElem?_eq_some_iff.1 h).2
  rw [hc, ← Nat.add_zero (i + 1), ← List.getElem?_drop, Nat.add_zero]
  cases hd : l.drop (i + 1) with
  | nil => simp [Lib.hasPrefix, List.isPrefixOf]
  | cons d l' =>
    rw [Bool.eq_iff_iff]
    simp [Lib.hasPrefix]
    constructor
    · rintro ⟨rfl, rfl⟩; exact ⟨rfl, rfl⟩
    · rintro ⟨rfl, rfl⟩; exact ⟨rfl, rfl⟩
theorem byteArray_ext (a : ByteArray) (l : List UInt8) (h : a.data.toList = l) : (⟨l.toArray⟩ : ByteArray) = a := by subst h; cases a; simp

theorem lines_len {l r : List UInt8} {pre : List ByteArray} (h : linesB l = pre ++ linesB r) : pre.length < (linesB l).length := by
  rw [h, List.length_append]
  have : (linesB r).length ≠ 0 := by
    unfold linesB
    rw [List.length_map]
    intro e
    exact linesL_ne r (List.length_eq_zero_iff.1 e)
  omega
theorem indexAny_any (s : ByteArray) (w : World) (hs : s.size ≤ 16777216) :
    Calls Tryd.prog 42 #[.string s, .string crlf] w fun e w' => e = .returned (.int .i64 (Lib.indexAny s.data.toList crlf.data.toList)) ∧ Below w.heap.size w w' := by
  by_cases h8 : s.size ≤ 8
  · exact indexAny_short s w h8
  · refine (Tryd.strings_IndexAny_long (by intro w; kernel_rfl) s crlf w (by decide) (by omega) (by omega) (by decide) ?_).mono fun e w' ⟨he, hw⟩ => ⟨he, ?_⟩
    · intro j b hj
      have : b = 10 ∨ b = 13 := by
        have := List.mem_of_getElem? hj
        simpa using this
      rcases this with rfl | rfl <;> decide
    · rw [hw]; exact ((Below.refl _ _).alloc (Nat.le_refl _) _).alloc (by simp) _

attribute [local go_sem] Oper.semAt_some

set_option maxRecDepth 100000 in
set_option maxHeartbeats 2000000 in
theorem lines_seq (n : Nat) (hn : 1 ≤ n) (bn : Nat) (s : ByteArray) (hs : s.size ≤ 16777216) (w : World) (hb : Boxed w bn 9 (.string s)) :
    SeqBox Fence.wide n Tryd.prog 41 #[.pointer (some ⟨bn, 0, none⟩)] (fun x : ByteArray => #[.string x]) bn (linesB s.data.toList) w := by
  intro l J W hW hJa hJb hY h0
  have hbW : Boxed W bn 9 (.string s) := (hW.block bn hb.lt).trans hb
  refine callsIn_of_wp Tryd.func41 rfl trivial ?_ rfl
  simp only [Tryd.ntmps41, List.size_toArray, List.length_cons, List.length_nil, Nat.reduceAdd, Nat.reduceSub, Array.replicate_succ, Array.replicate_zero, List.push_toArray, List.append_toArray, List.nil_append, List.cons_append]
  have HJa := Lib.hid hJa
  have HJb := Lib.hid hJb
  have HY := Lib.hid hY
  clear hJa hJb hY hW hb
  gi_wp2_with fail
  gi_loopw [3] (fun _ wr => ∃ (pre : List ByteArray) (r : ByteArray), Boxed wr bn 9 (.string r) ∧ r.size ≤ 16777216 ∧ linesB s.data.toList = pre ++ linesB r.data.toList ∧ J pre wr) (fun _ wr => boxLen bn wr)
  case atStart => exact ⟨[], s, hbW, hs, rfl, h0⟩
  case round =>
    obtain ⟨pre, r, hbr, hr, hx, hJ⟩ := hrel
    have Hx := Lib.hid hx
    clear hx h0 hbW
    have hc := hbr.cell
    rcases indexAny_spec crlf.data.toList r.data.toList with ⟨h1, h2⟩ | ⟨i, c, h1, h2, h3, h4⟩
    · have HI := Lib.hid (indexAny_any r wr hr)
      rw [h1] at HI
      have HN := Lib.hid h2
      clear h1 h2
      gi_wp2_with (refine ⟨trivial, ?_⟩; gi_at_call 42; refine (callsIn_wide.2 HI.out).mono ?_)
      rintro e w1 rfl hb1
      have hbr1 : Boxed w1 bn 9 (.string r) := (hb1.block _ hbr.lt).trans hbr
      have hc1 := hbr1.cell
      obtain ⟨fn, tmps, assign, body, hy, hR⟩ := HY.out pre r w1 (HJa.out _ _ _ hJ hb1) (lines_len Hx.out)
      clear hc HI
      gi_wp2_with fail
      refine hR.mono ?_
      rintro e W' ⟨rfl, hJ', hk⟩
      gi_wp2_with fail
      refine bodyPost_ret (results_none rfl _ _ _) rfl ?_
      refine ⟨⟨_, rfl⟩, ?_⟩
      rw [Hx.out]
      have : linesB r.data.toList = [r] := by
        rw [linesB, lines_none _ HN.out, List.map_cons, List.map_nil, byteArray_ext r _ rfl]
      rw [this]
      exact hJ'
    · have HI := Lib.hid (indexAny_any r wr hr)
      rw [h1] at HI
      have hil : i < r.size := by have := (List.getElem?_eq_some_iff.1 h3).1; simpa using this
      have HL := Lib.hid (lines_at r.data.toList i c h2 h3 h4)
      have HP := Lib.hid (hp_crlf r.data.toList i c h3)
      have H3 := Lib.hid h3
      clear h1 h2 h3 h4
      gi_wp2_with (refine ⟨trivial, ?_⟩; gi_at_call 42; refine (callsIn_wide.2 HI.out).mono ?_)
      rintro e w1 ⟨rfl, hb1⟩
      have hbr1 : Boxed w1 bn 9 (.string r) := (hb1.block _ hbr.lt).trans hbr
      have hc1 := hbr1.cell
      obtain ⟨fn, tmps, assign, body, hy, hR⟩ := HY.out pre (r.extract 0 i) w1 (HJa.out _ _ _ hJ hb1) (lines_len Hx.out)
      clear HI
      gi_wp2_with fail
      refine hR.mono ?_
      rintro e W' ⟨rfl, hJ', hk⟩
      clear hc1 hy hR
      have hbr2 : Boxed W' bn 9 (.string r) := hk.trans hbr1
      have hc2 := hbr2.cell
      have hf2 := hbr2.frozen
      clear hk
      have hHP : Calls Tryd.prog 35 #[.string (r.extract i r.size), .string ⟨#[13, 10]⟩] W' fun e w' => e = .returned (.bool (decide (c = 13 ∧ r.data.toList[i + 1]? = some 10))) ∧ W' = w' :=
        (Tryd.strings_HasPrefix (r.extract i r.size) ⟨#[13, 10]⟩ W').mono fun e w' ⟨he, hw⟩ => ⟨by rw [he, Lib.extract_to_end, HP.out], hw.symm⟩
      have HH := Lib.hid hHP
      clear hHP HP
      have HX := Lib.hid (show linesB s.data.toList = (pre ++ [r.extract 0 i]) ++ linesB (r.data.toList.drop (if c = 13 ∧ r.data.toList[i + 1]? = some 10 then i + 2 else i + 1)) by
        rw [Hx.out, linesB, HL.out, List.map_cons, List.append_assoc]
        congr 1
        rw [List.singleton_append]
        congr 1
        exact byteArray_ext _ _ (by rw [Lib.extract_data]; simp))
      clear HL Hx
      by_cases hq : c = 13 ∧ r.data.toList[i + 1]? = some 10
      · have hi2 : i + 2 ≤ r.size := by have := (List.getElem?_eq_some_iff.1 hq.2).1; simp at this; omega
        rw [if_pos hq] at HX
        rw [decide_eq_true hq] at HH
        clear hq H3
        gi_wp2_with (refine ⟨trivial, ?_⟩; gi_at_call 35; refine (callsIn_wide.2 HH.out).mono ?_; rintro e w' ⟨rfl, rfl⟩)
        go_roundw
        case rel => exact ⟨pre ++ [r.extract 0 i], r.extract (i + 1 + 1) r.size, hbr2.set _, by simp; omega, by rw [HX.out, Lib.extract_to_end], HJb.out _ _ _ hJ'⟩
        case measure => rw [boxLen_of hbr, boxLen_of (hbr2.set _)]; simp; omega
      · rw [if_neg hq] at HX
        rw [decide_eq_false hq] at HH
        clear hq H3
        gi_wp2_with (refine ⟨trivial, ?_⟩; gi_at_call 35; refine (callsIn_wide.2 HH.out).mono ?_; rintro e w' ⟨rfl, rfl⟩)
        go_roundw
        case rel => exact ⟨pre ++ [r.extract 0 i], r.extract (i + 1) r.size, hbr2.set _, by simp; omega, by rw [HX.out, Lib.extract_to_end], HJb.out _ _ _ hJ'⟩
        case measure => rw [boxLen_of hbr, boxLen_of (hbr2.set _)]; simp; omega
end Go.Proofs.YtcflmpnkmchdoaaDoor
