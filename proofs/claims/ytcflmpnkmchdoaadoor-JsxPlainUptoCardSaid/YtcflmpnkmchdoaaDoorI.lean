/- jsx.Shown: what JSX shows of a text (up to 2^24 bytes). -/
import Derived.Test.YtcflmpnkmchdoaaDoorH
import Derived.Shelf.Strings.SlTrimAscii
import Derived.SliceStrings
namespace Go.Proofs.YtcflmpnkmchdoaaDoor
open Go.RowKit

theorem tl_any (s : ByteArray) (w : World) :
    Calls Tryd.prog 31 #[.string s, .string ⟨#[32, 9]⟩] w fun e w' => e = .returned (.string ⟨(Lib.trimLeftS s.data.toList [32, 9]).toArray⟩) ∧ Below w.heap.size w w' :=
  Any.strings_TrimLeft_laid Tryd.lays161 (by kernel_rfl) s ⟨#[32, 9]⟩ w (by decide) (Go.Proofs.ascii_of_all (by decide))
theorem tr_any (s : ByteArray) (w : World) (hs : s.size ≤ 16777216) :
    Calls Tryd.prog 32 #[.string s, .string ⟨#[32, 9]⟩] w fun e w' => e = .returned (.string ⟨(Lib.trimRightS s.data.toList [32, 9]).toArray⟩) ∧ Below w.heap.size w w' :=
  Any.strings_TrimRight_laid Tryd.lays162 (by kernel_rfl) s ⟨#[32, 9]⟩ w (by omega) (by decide) (Go.Proofs.ascii_of_all (by decide))
theorem ofl' (s : ByteArray) : s.data.toList.length = s.size := by simp
attribute [local go_sem] Oper.semAt_some
theorem lines_any (n : Nat) (s : ByteArray) (w : World) :
    CallsIn Fence.wide n Tryd.prog 30 #[.string s] w fun e w' => e = .returned (.func (.func 41) #[] #[.pointer (some ⟨w.heap.size, 0, none⟩)]) ∧ w' = w.alloc (.cells #[.string s] 9) := by
  refine callsIn_of_wp Tryd.func30 rfl trivial ?_ rfl
  simp only [Tryd.ntmps30, List.size_toArray, List.length_cons, List.length_nil, Nat.reduceAdd, Nat.reduceSub, Array.replicate_succ, Array.replicate_zero, List.push_toArray, List.append_toArray, List.nil_append, List.cons_append]
  gi_wp2
  go_ret
  exact ⟨rfl, rfl⟩
theorem infoStr : (Tryd.prog.info? 9).map (fun i => (i.zero, i.size, i.bytes)) = some (some (.string ⟨#[]⟩), 1, 16) := by kernel_rfl

theorem box_set_other {W : World} {B b : Nat} {t : TypeId} {v u : Value} (h : Boxed W B t v) (hne : B ≠ b) : Boxed (W.setCell ⟨b, 0, none⟩ u) B t v :=
  (Below.heap_setCell W ⟨b, 0, none⟩ u B hne).trans h
theorem row_set_other {W : World} {base : Nat} {e : TypeId} {size : Nat} {v u : Value} {k : Nat} {xs : List Value} {b : Nat} (h : W.ownsRow base e size v k xs) (hb : b < base) : (W.setCell ⟨b, 0, none⟩ u).ownsRow base e size v k xs := by
  refine h.kept (grownBy_setCell' W b u) ?_
  cases hv : v.ownBlock with
  | none => exact .inl rfl
  | some g => exact .inr (fun e => by cases e; have := (h.lt b hv).1; omega)
theorem row_below {A B : World} {base : Nat} {e : TypeId} {size : Nat} {v : Value} {k : Nat} {xs : List Value} (h : A.ownsRow base e size v k xs) (hb : Below A.heap.size A B) : B.ownsRow base e size v k xs := by
  refine ⟨h.1, ?_⟩
  rcases h.2 with h2 | ⟨g, cap, cur, hv, hg, hc, rest⟩
  · exact .inl h2
  · exact .inr ⟨g, cap, cur, hv, hg, (hb.block g (Array.getElem?_eq_some_iff.1 hc).1).trans hc, rest⟩

/-- between two rounds of the loop over the lines: the box of 'all'. -/
def AllRel (B base : Nat) (w : World) (pre : List ByteArray) (W : World) : Prop :=
  (∃ v, Boxed W B 30 v ∧ W.ownsRow base 9 1 v pre.length (pre.map Value.string)) ∧ base ≤ W.heap.size ∧ Below B w W
theorem tl_l (l : List UInt8) (w : World) :
    Calls Tryd.prog 31 #[.string ⟨l.toArray⟩, .string ⟨#[32, 9]⟩] w fun e w' => e = .returned (.string ⟨(Lib.trimLeftS l [32, 9]).toArray⟩) ∧ Below w.heap.size w w' := by
  simpa using tl_any ⟨l.toArray⟩ w
theorem tr_l (l : List UInt8) (w : World) (hl : l.length ≤ 16777216) :
    Calls Tryd.prog 32 #[.string ⟨l.toArray⟩, .string ⟨#[32, 9]⟩] w fun e w' => e = .returned (.string ⟨(Lib.trimRightS l [32, 9]).toArray⟩) ∧ Below w.heap.size w w' := by
  simpa using tr_any ⟨l.toArray⟩ w (by simpa [ByteArray.size] using hl)
/-- a list of bytes as a text's value. -/
def strV (l : List UInt8) : Value := .string ⟨l.toArray⟩
/-- between two rounds of the loop over the lines that came. -/
def OutRel (W : World) (ls : List (List UInt8)) (k : Nat) (out : Value) (wr : World) : Prop :=
  ∃ acc : List (List UInt8), outs ls.length 0 ls = acc ++ outs ls.length k (ls.drop k) ∧ acc.length ≤ k ∧ wr.ownsRow W.heap.size 9 1 out acc.length (acc.map strV) ∧ Below W.heap.size W wr
theorem OutRel.below {W : World} {ls : List (List UInt8)} {k : Nat} {out : Value} {A B : World} (h : OutRel W ls k out A) (hb : Below A.heap.size A B) : OutRel W ls k out B := by
  obtain ⟨acc, h1, h2, h3, h4⟩ := h
  exact ⟨acc, h1, h2, row_below h3 hb, h4.trans (hb.mono h4.size)⟩
theorem outs_at {ls : List (List UInt8)} {k : Nat} (h : k < ls.length) : outs ls.length k (ls.drop k) = if pieceL ls.length k ls[k] = [] then outs ls.length (k + 1) (ls.drop (k + 1)) else pieceL ls.length k ls[k] :: outs ls.length (k + 1) (ls.drop (k + 1)) := by
  rw [List.drop_eq_getElem_cons h, outs]
theorem OutRel.miss {W : World} {ls : List (List UInt8)} {k : Nat} {out : Value} {wr : World} (h : OutRel W ls k out wr) (hk : k < ls.length) (hp : pieceL ls.length k ls[k] = []) : OutRel W ls (k + 1) out wr := by
  obtain ⟨acc, h1, h2, h3, h4⟩ := h
  exact ⟨acc, by rw [h1, outs_at hk, if_pos hp], by omega, h3, h4⟩
theorem OutRel.hit {W : World} {ls : List (List UInt8)} {k : Nat} {out' : Value} {w1 : World} {acc : List (List UInt8)} (h1 : outs ls.length 0 ls = acc ++ outs ls.length k (ls.drop k)) (h2 : acc.length ≤ k)
    (h4 : Below W.heap.size W w1) (hk : k < ls.length) (hp : pieceL ls.length k ls[k] ≠ []) (hown : w1.ownsRow W.heap.size 9 1 out' (acc.length + 1) (acc.map strV ++ [strV (pieceL ls.length k ls[k])])) : OutRel W ls (k + 1) out' w1 := by
  refine ⟨acc ++ [pieceL ls.length k ls[k]], by rw [h1, outs_at hk, if_neg hp, List.append_assoc]; rfl, by simp; omega, ?_, h4⟩
  simpa using hown

set_option maxRecDepth 100000 in
set_option maxHeartbeats 4000000 in
theorem shown_in (s : ByteArray) (hs : s.size ≤ 16777216) (hmany : (linesB s.data.toList).length ≤ 16777217) (w : World) :
    CallsIn Fence.wide 4 Tryd.prog 16 #[.string s] w fun e w' => e = .returned (.string ⟨(shownL s.data.toList).toArray⟩) ∧ Below w.heap.size w w' := by
  obtain ⟨i0, hi, hz0, hz1, hz2⟩ := info_parts infoStr
  refine callsIn_of_wp_marks Tryd.func16 rfl trivial ?_ rfl
  simp only [Tryd.ntmps16, List.size_toArray, List.length_cons, List.length_nil, Nat.reduceAdd, Nat.reduceSub, Array.replicate_succ, Array.replicate_zero, List.push_toArray, List.append_toArray, List.nil_append, List.cons_append]
  gi_wp2_with (refine ⟨trivial, ?_⟩; gi_at_call 30; refine (lines_any _ _ _).mono ?_; rintro e w' ⟨rfl, rfl⟩)
  have bA := Boxed.new w 30 (.slice none 0 0)
  have bN := Boxed.new (w.alloc (.cells #[.slice none 0 0] 30)) 9 (.string s)
  rw [World.size_alloc] at bN
  have hB0 : Below w.heap.size w ((w.alloc (.cells #[.slice none 0 0] 30)).alloc (.cells #[.string s] 9)) := ((Below.refl _ w).alloc (Nat.le_refl _) _).alloc (by simp) _
  refine wpIn_rangeFunc_box (xs := linesB s.data.toList) rfl (by omega) (gf := 41) (lb := #[.pointer (some ⟨w.heap.size + 1, 0, none⟩)]) rfl trivial (enters_of Tryd.func41 (by kernel_rfl) rfl)
    (bn := w.heap.size + 1) (by simp) (lines_seq _ (by omega) _ s hs _ bN) (fun _ => rfl)
    (AllRel w.heap.size (w.heap.size + 2) w)
    (fun s A B h hb => by
      obtain ⟨⟨v, hv, hrow⟩, hz, hbel⟩ := h
      exact ⟨⟨v, (hb.block _ hv.lt).trans hv, row_below hrow hb⟩, by have := hb.size; omega, hbel.trans (hb.mono (by omega))⟩)
    (fun s A u h => by
      obtain ⟨⟨v, hv, hrow⟩, hz, hbel⟩ := h
      exact ⟨⟨v, box_set_other hv (by omega), row_set_other hrow (by omega)⟩, by simpa [World.setCell] using hz, hbel.setCell (p := ⟨w.heap.size + 1, 0, none⟩) (by simp) _⟩)
    (fun s A l o h hl => by
      by_cases hex : ∃ o', A.heap[l]? = some (.loop o')
      · obtain ⟨o', ho'⟩ := hex
        refine .inl ?_
        obtain ⟨⟨v, hv, hrow⟩, hz, hbel⟩ := h
        simp at hl
        refine ⟨⟨v, hv.kept (grownBy_putObj' A l (.loop o)) (by simp; omega), ownsRow_putObj hrow _ ho' rfl⟩, by simpa using hz, ?_⟩
        exact hbel.trans (below_putObj_self A l _ _ (by omega))
      · exact .inr hex)
    ⟨⟨_, bA.alloc _, World.ownsRow_nil _ _ _ _⟩, by simp, hB0⟩
    (fun x => { tmps := #[.string s, undef, .string ⟨#[]⟩, .pointer (some ⟨w.heap.size, 0, none⟩), .string x, undef, undef, undef, .string s, .func (.func 41) #[] #[.pointer (some ⟨w.heap.size + 1, 0, none⟩)], .string x, undef, undef, undef, undef, undef, undef, undef, undef, undef, undef, undef, undef, undef, undef, undef, undef, undef, undef, undef, undef, undef, undef, undef, undef, undef, undef, undef, undef, undef, undef, undef], defers := [] }) ?assign ?body ?done
  case assign =>
    intro l x W K hK
    gi_wp2
    exact hK
  case body =>
    rintro l pre x W ⟨⟨v, hv, hrow⟩, hz, hB⟩ hlt
    have hc := hv.cell
    gi_wp2_with (gi_at_builtin; refine wpListIn_append_own _ rfl _ _ 30 rfl (w.heap.size + 2) 9 i0 (.string ⟨#[]⟩) 1 16 Tryd.underlying30 hi hz0 hz1 hz2 rfl (by decide) _ _ _ rfl (hrow.alloc _) ⟨W.heap.size, 0, none⟩ 1 1 [.string x] rfl rfl (cell_one_new _ _ _) (by simp [Value.oneCell']) (by unfold maxLen; omega) (by omega) (by simp; omega) ?_)
    intro v' w1 hown' hgrow _
    obtain ⟨g', cap', rfl⟩ := ownsRow_succ hown'
    have hg2 : W.grownBy w1 v.ownBlock := (World.grownBy_alloc W _ _).trans hgrow
    have hne : some w.heap.size ≠ v.ownBlock := fun e => by have := (hrow.lt _ e.symm).1; omega
    have hv1 := hv.kept hg2 hne
    have hc1 := hv1.cell
    have hf1 := hv1.frozen
    gi_wp2
    have hsz := hg2.size
    refine ⟨?_, ?_, ⟨_, hv1.set _, ?_⟩, ?_, ?_⟩
    · refine (KeepsOthers.of_grownBy hg2 (fun j o hj ho => ?_)).trans (KeepsOthers.setCell _ _ _)
      rcases hrow.2 with ⟨rfl, _⟩ | ⟨g, cap, cur, rfl, _, hgb, _⟩
      · simp [Value.ownBlock] at hj
      · simp [Value.ownBlock] at hj
        subst hj
        rw [hgb] at ho
        cases ho
        rfl
    · refine (Below.heap_setCell w1 ⟨w.heap.size, 0, none⟩ _ _ (by simp)).trans (hg2.block _ (by omega) (fun e => ?_))
      have := (hrow.lt _ e.symm).1
      omega
    · rw [List.length_append, List.map_append]
      exact row_set_other hown' (by omega)
    · simp [World.setCell]; omega
    · exact (hB.grown hg2 (by omega) (fun k e => by have := (hrow.lt _ e).1; omega)).setCell (p := ⟨w.heap.size, 0, none⟩) (Nat.le_refl _) _
  case done =>
    rintro D W hD ⟨⟨v, hv, hrow⟩, hz, hB⟩ hK
    have hN : 1 ≤ (linesB s.data.toList).length := by
      have := linesL_ne s.data.toList
      rw [linesB, List.length_map]
      exact List.length_pos_iff.2 this
    obtain ⟨g, cap, cur, rfl, hg, hgb⟩ : ∃ g cap cur, v = .slice (some ⟨g, 0, none⟩) (linesB s.data.toList).length cap ∧ w.heap.size + 2 ≤ g ∧ W.heap[g]? = some (.cells cur 9 (0, 0)) := by
      rcases hrow.2 with ⟨_, h0⟩ | ⟨g, cap, cur, h1, h2, h3, _⟩
      · omega
      · exact ⟨g, cap, cur, h1, h2, h3⟩
    have hcell : ∀ (k : Nat) (hk : k < (linesL s.data.toList).length), W.cell? ⟨g, k, none⟩ = some (strV (linesL s.data.toList)[k]) := fun k hk => by
      rw [World.ownsRow.cellAt hrow k (by rw [linesB, List.length_map]; omega)]
      rw [linesB, List.map_map, List.getElem?_map, List.getElem?_eq_getElem hk]
      rfl
    have hLN : (linesB s.data.toList).length = (linesL s.data.toList).length := by rw [linesB, List.length_map]
    have hgl : g < W.heap.size := (Array.getElem?_eq_some_iff.1 hgb).1
    have hDl : D < W.heap.size := (Array.getElem?_eq_some_iff.1 hK).1
    have hsum : sumL (linesL s.data.toList) ≤ 16777217 := by have := sumL_lines s.data.toList; rw [ofl'] at this; omega
    have hll : ∀ l ∈ linesL s.data.toList, l.length ≤ 16777216 := fun l hl => by have := mem_sumL hl; omega
    have hc := hv.cell
    rw [hLN] at hc hN hmany
    have Hv := Lib.hid hv
    have HK := Lib.hid hK
    have HC := Lib.hid hcell
    have HB := Lib.hid hB
    have HL := Lib.hid hll
    clear hrow hv hK hcell hB hgb hLN hll
    obtain ⟨ls, hls⟩ : ∃ ls, linesL s.data.toList = ls := ⟨_, rfl⟩
    have hsh : shownL s.data.toList = Lib.join (outs ls.length 0 ls) [32] := by rw [shownL, hls]
    have Hsh := Lib.hid hsh
    clear hsh
    rw [hls] at hc hN HC hmany HL hsum
    clear hls
    have bA' : w.heap.size < W.heap.size := by omega
    clear bA bN hB0
    gi_wp2_with fail
    gi_loopw [17, 5, 6, 7] (fun i out _ _ wr => ∃ k : Nat, k ≤ ls.length ∧ i = .int .i64 k ∧ OutRel W ls k out wr) (fun i _ _ _ _ => ls.length - (intOf i).toNat)
    case atStart => exact ⟨0, by omega, rfl, [], by simp, by simp, World.ownsRow_nil _ _ _ _, Below.refl _ _⟩
    case round =>
      obtain ⟨k, hk, rfl, hrel⟩ := hrel
      by_cases hlt : k < ls.length
      · have hb := hrel.choose_spec.2.2.2
        have hx : wr.cell? ⟨g, k, none⟩ = some (.string ⟨(ls[k]).toArray⟩) := (hb.cell (p := ⟨g, k, none⟩) hgl).trans (HC.out k hlt)
        have hcb : wr.cell? ⟨w.heap.size, 0, none⟩ = some (.slice (some ⟨g, 0, none⟩) ls.length cap) := (hb.cell (p := ⟨w.heap.size, 0, none⟩) bA').trans hc
        have hll := HL.out ls[k] (List.getElem_mem hlt)
        have HR := Lib.hid hrel
        clear hb hrel hc
        have hwz := HR.out.choose_spec.2.2.2.size
        by_cases hk0 : 0 < k
        · by_cases hk1 : k + 1 < ls.length
          · have Hpc := Lib.hid (show pieceL ls.length k ls[k] = Lib.trimRightS (Lib.trimLeftS ls[k] [32, 9]) [32, 9] by unfold pieceL; rw [if_pos hk1, if_pos hk0])
            gi_wp2_with (refine ⟨trivial, ?_⟩; gi_at_call 31; refine (callsIn_wide.2 (tl_l _ _)).mono ?_)
            rintro e wa ⟨rfl, hbwa⟩
            have hcwa : wa.cell? ⟨w.heap.size, 0, none⟩ = some (.slice (some ⟨g, 0, none⟩) ls.length cap) := (hbwa.cell (p := ⟨w.heap.size, 0, none⟩) (by show w.heap.size < _; omega)).trans hcb
            have HRa := Lib.hid (HR.out.below hbwa)
            have hzwa := hbwa.size
            gi_wp2_with (refine ⟨trivial, ?_⟩; gi_at_call 32; refine (callsIn_wide.2 (tr_l _ _ (by first | omega | (have := trimLeftS_len ls[k] [32, 9]; omega)))).mono ?_)
            rintro e wb ⟨rfl, hbwb⟩
            have hcwb : wb.cell? ⟨w.heap.size, 0, none⟩ = some (.slice (some ⟨g, 0, none⟩) ls.length cap) := (hbwb.cell (p := ⟨w.heap.size, 0, none⟩) (by show w.heap.size < _; omega)).trans hcwa
            have HRb := Lib.hid (HRa.out.below hbwb)
            have hzwb := hbwb.size
            have hwb := HRb.out.choose_spec.2.2.2.size
            cases hp : ((Lib.trimRightS (Lib.trimLeftS ls[k] [32, 9]) [32, 9]) : List UInt8).isEmpty
            · obtain ⟨acc, h1, h2, h3, h4⟩ := HRb.out
              have HA1 := Lib.hid h1
              have HP := Lib.hid hp
              clear h1
              gi_wp2_with (gi_at_builtin; refine wpListIn_append_own _ rfl _ _ 30 rfl W.heap.size 9 i0 (.string ⟨#[]⟩) 1 16 Tryd.underlying30 hi hz0 hz1 hz2 rfl (by decide) _ _ _ rfl (h3.alloc _) ⟨wb.heap.size, 0, none⟩ 1 1 [.string ⟨(Lib.trimRightS (Lib.trimLeftS ls[k] [32, 9]) [32, 9]).toArray⟩] rfl rfl (cell_one_new _ _ _) (by simp [Value.oneCell']) (by unfold maxLen; omega) (by omega) (by simp; omega) ?_)
              intro v' wz hown' hgrow _
              gi_wp2_with fail
              go_roundw
              case rel => exact ⟨k + 1, by omega, by go_num, OutRel.hit HA1.out h2 (h4.grown ((World.grownBy_alloc wb _ _).trans hgrow) hwb (fun q e => (h3.lt q e).1)) hlt (by rw [Hpc.out]; intro e; have := HP.out; rw [e] at this; cases this) (by rw [Hpc.out]; exact hown')⟩
              case measure => simp [intOf]; omega
            · have HP := Lib.hid hp
              gi_wp2_with fail
              go_roundw
              case rel => exact ⟨k + 1, by omega, by go_num, HRb.out.miss hlt (by rw [Hpc.out]; simpa using HP.out)⟩
              case measure => simp [intOf]; omega
          · have Hpc := Lib.hid (show pieceL ls.length k ls[k] = Lib.trimLeftS ls[k] [32, 9] by unfold pieceL; rw [if_neg hk1, if_pos hk0])
            gi_wp2_with (refine ⟨trivial, ?_⟩; gi_at_call 31; refine (callsIn_wide.2 (tl_l _ _)).mono ?_)
            rintro e wa ⟨rfl, hbwa⟩
            have hcwa : wa.cell? ⟨w.heap.size, 0, none⟩ = some (.slice (some ⟨g, 0, none⟩) ls.length cap) := (hbwa.cell (p := ⟨w.heap.size, 0, none⟩) (by show w.heap.size < _; omega)).trans hcb
            have HRa := Lib.hid (HR.out.below hbwa)
            have hzwa := hbwa.size
            have hwb := HRa.out.choose_spec.2.2.2.size
            cases hp : ((Lib.trimLeftS ls[k] [32, 9]) : List UInt8).isEmpty
            · obtain ⟨acc, h1, h2, h3, h4⟩ := HRa.out
              have HA1 := Lib.hid h1
              have HP := Lib.hid hp
              clear h1
              gi_wp2_with (gi_at_builtin; refine wpListIn_append_own _ rfl _ _ 30 rfl W.heap.size 9 i0 (.string ⟨#[]⟩) 1 16 Tryd.underlying30 hi hz0 hz1 hz2 rfl (by decide) _ _ _ rfl (h3.alloc _) ⟨wa.heap.size, 0, none⟩ 1 1 [.string ⟨(Lib.trimLeftS ls[k] [32, 9]).toArray⟩] rfl rfl (cell_one_new _ _ _) (by simp [Value.oneCell']) (by unfold maxLen; omega) (by omega) (by simp; omega) ?_)
              intro v' wz hown' hgrow _
              gi_wp2_with fail
              go_roundw
              case rel => exact ⟨k + 1, by omega, by go_num, OutRel.hit HA1.out h2 (h4.grown ((World.grownBy_alloc wa _ _).trans hgrow) hwb (fun q e => (h3.lt q e).1)) hlt (by rw [Hpc.out]; intro e; have := HP.out; rw [e] at this; cases this) (by rw [Hpc.out]; exact hown')⟩
              case measure => simp [intOf]; omega
            · have HP := Lib.hid hp
              gi_wp2_with fail
              go_roundw
              case rel => exact ⟨k + 1, by omega, by go_num, HRa.out.miss hlt (by rw [Hpc.out]; simpa using HP.out)⟩
              case measure => simp [intOf]; omega
        · by_cases hk1 : k + 1 < ls.length
          · have Hpc := Lib.hid (show pieceL ls.length k ls[k] = Lib.trimRightS ls[k] [32, 9] by unfold pieceL; rw [if_pos hk1, if_neg hk0])
            gi_wp2_with (refine ⟨trivial, ?_⟩; gi_at_call 32; refine (callsIn_wide.2 (tr_l _ _ (by first | omega | (have := trimLeftS_len ls[k] [32, 9]; omega)))).mono ?_)
            rintro e wb ⟨rfl, hbwb⟩
            have hcwb : wb.cell? ⟨w.heap.size, 0, none⟩ = some (.slice (some ⟨g, 0, none⟩) ls.length cap) := (hbwb.cell (p := ⟨w.heap.size, 0, none⟩) (by show w.heap.size < _; omega)).trans hcb
            have HRb := Lib.hid (HR.out.below hbwb)
            have hzwb := hbwb.size
            have hwb := HRb.out.choose_spec.2.2.2.size
            cases hp : ((Lib.trimRightS (ls[k]) [32, 9]) : List UInt8).isEmpty
            · obtain ⟨acc, h1, h2, h3, h4⟩ := HRb.out
              have HA1 := Lib.hid h1
              have HP := Lib.hid hp
              clear h1
              gi_wp2_with (gi_at_builtin; refine wpListIn_append_own _ rfl _ _ 30 rfl W.heap.size 9 i0 (.string ⟨#[]⟩) 1 16 Tryd.underlying30 hi hz0 hz1 hz2 rfl (by decide) _ _ _ rfl (h3.alloc _) ⟨wb.heap.size, 0, none⟩ 1 1 [.string ⟨(Lib.trimRightS (ls[k]) [32, 9]).toArray⟩] rfl rfl (cell_one_new _ _ _) (by simp [Value.oneCell']) (by unfold maxLen; omega) (by omega) (by simp; omega) ?_)
              intro v' wz hown' hgrow _
              gi_wp2_with fail
              go_roundw
              case rel => exact ⟨k + 1, by omega, by go_num, OutRel.hit HA1.out h2 (h4.grown ((World.grownBy_alloc wb _ _).trans hgrow) hwb (fun q e => (h3.lt q e).1)) hlt (by rw [Hpc.out]; intro e; have := HP.out; rw [e] at this; cases this) (by rw [Hpc.out]; exact hown')⟩
              case measure => simp [intOf]; omega
            · have HP := Lib.hid hp
              gi_wp2_with fail
              go_roundw
              case rel => exact ⟨k + 1, by omega, by go_num, HRb.out.miss hlt (by rw [Hpc.out]; simpa using HP.out)⟩
              case measure => simp [intOf]; omega
          · have Hpc := Lib.hid (show pieceL ls.length k ls[k] = ls[k] by unfold pieceL; rw [if_neg hk1, if_neg hk0])
            have hwb := HR.out.choose_spec.2.2.2.size
            cases hp : ((ls[k]) : List UInt8).isEmpty
            · obtain ⟨acc, h1, h2, h3, h4⟩ := HR.out
              have HA1 := Lib.hid h1
              have HP := Lib.hid hp
              clear h1
              gi_wp2_with (gi_at_builtin; refine wpListIn_append_own _ rfl _ _ 30 rfl W.heap.size 9 i0 (.string ⟨#[]⟩) 1 16 Tryd.underlying30 hi hz0 hz1 hz2 rfl (by decide) _ _ _ rfl (h3.alloc _) ⟨wr.heap.size, 0, none⟩ 1 1 [.string ⟨(ls[k]).toArray⟩] rfl rfl (cell_one_new _ _ _) (by simp [Value.oneCell']) (by unfold maxLen; omega) (by omega) (by simp; omega) ?_)
              intro v' wz hown' hgrow _
              gi_wp2_with fail
              go_roundw
              case rel => exact ⟨k + 1, by omega, by go_num, OutRel.hit HA1.out h2 (h4.grown ((World.grownBy_alloc wr _ _).trans hgrow) hwb (fun q e => (h3.lt q e).1)) hlt (by rw [Hpc.out]; intro e; have := HP.out; rw [e] at this; cases this) (by rw [Hpc.out]; exact hown')⟩
              case measure => simp [intOf]; omega
            · have HP := Lib.hid hp
              gi_wp2_with fail
              go_roundw
              case rel => exact ⟨k + 1, by omega, by go_num, HR.out.miss hlt (by rw [Hpc.out]; simpa using HP.out)⟩
              case measure => simp [intOf]; omega
      · obtain rfl : k = ls.length := by omega
        obtain ⟨acc, h1, h2, h3, h4⟩ := hrel
        have hacc : acc = outs ls.length 0 ls := by rw [h1, List.drop_length]; simp [outs]
        have hjl := join_len acc
        have hsa : sumL acc ≤ sumL ls := by rw [hacc]; exact sumL_outs _ _ _
        have hK2 : wr.heap[D]? = some (.deferred (some [])) := (h4.block D hDl).trans HK.out
        have hJ : Calls Tryd.prog 33 #[u5, .string ⟨#[32]⟩] wr fun e w' => e = .returned (.string ⟨(Lib.join acc [32]).toArray⟩) ∧ Below wr.heap.size wr w' := by
          by_cases hz : acc.length = 0
          · have : acc = [] := List.length_eq_zero_iff.1 hz
            subst this
            have hv : ∃ a c, u5 = .slice a 0 c := by
              rcases h3.2 with ⟨rfl, _⟩ | ⟨g, cap, cur, rfl, _⟩
              · exact ⟨_, _, rfl⟩
              · exact ⟨_, _, rfl⟩
            obtain ⟨a, c, rfl⟩ := hv
            exact (Tryd.strings_Join_none a c ⟨#[32]⟩ wr).mono fun e w' ⟨he, hw⟩ => ⟨he, hw ▸ Below.refl _ _⟩
          · obtain ⟨g2, cap2, cur2, rfl, _, hgc, hcap2, _⟩ : ∃ g cap cur, u5 = .slice (some ⟨g, 0, none⟩) acc.length cap ∧ W.heap.size ≤ g ∧ wr.heap[g]? = some (.cells cur 9 (0, 0)) ∧ acc.length ≤ cap ∧ True := by
              rcases h3.2 with ⟨_, h0⟩ | ⟨g, cap, cur, e1, e2, e3, e4, _⟩
              · omega
              · exact ⟨g, cap, cur, e1, e2, e3, e4, trivial⟩
            have hm : (acc.map fun l => (⟨l.toArray⟩ : ByteArray)).map (·.data.toList) = acc := by rw [List.map_map]; simp [Function.comp_def]
            have hJ := Tryd.strings_Join g2 0 cap2 (acc.map fun l => (⟨l.toArray⟩ : ByteArray)) ⟨#[32]⟩ wr
              (fun j x hx => by
                have hjl := (List.getElem?_eq_some_iff.1 hx).1
                rw [List.length_map] at hjl
                rw [Nat.zero_add, World.ownsRow.cellAt h3 j (by omega), List.getElem?_map]
                rw [List.getElem?_map] at hx
                rw [List.getElem?_eq_getElem hjl] at hx ⊢
                simp only [Option.map_some, Option.some.injEq] at hx ⊢
                rw [← hx]
                rfl)
              (Array.getElem?_eq_some_iff.1 hgc).1 (by rw [List.length_map]; omega) (by rw [List.length_map]; omega) (by rw [hm]; show (Lib.join acc [32]).length ≤ _; omega)
            rw [hm, List.length_map] at hJ
            exact hJ
        have HJ := Lib.hid hJ
        have Hacc := Lib.hid hacc
        clear hJ hacc h1 h3
        gi_wp2_with (refine ⟨trivial, ?_⟩; gi_at_call 33; refine (callsIn_wide.2 HJ.out).mono ?_)
        rintro e w1 ⟨rfl, hb1⟩
        have hK3 : w1.heap[D]? = some (.deferred (some [])) := (hb1.block D (by have := h4.size; omega)).trans hK2
        gi_wp2_with fail
        refine ⟨by simp, .inl ⟨_, _, rfl, run_takeDeferred hK3, ?_⟩⟩
        refine ⟨_, results_tmp rfl _ _ _, ?_, ?_⟩
        · rw [Hsh.out, ← Hacc.out]; rfl
        · exact ((HB.out.trans (h4.mono (by omega))).trans (hb1.mono (by have := h4.size; omega))).trans (below_putObj_self w1 D _ _ (by simp at hD; omega))

/-- jsx.Shown. -/
theorem shown_any (s : ByteArray) (hs : s.size ≤ 16777216) (w : World) :
    Calls Tryd.prog 16 #[.string s] w fun e w' => e = .returned (.string ⟨(shownL s.data.toList).toArray⟩) ∧ Below w.heap.size w w' :=
  callsIn_wide.1 (shown_in s hs (by rw [linesB, List.length_map]; have := lines_length s.data.toList; rw [ofl'] at this; omega) w)
end Go.Proofs.YtcflmpnkmchdoaaDoor
