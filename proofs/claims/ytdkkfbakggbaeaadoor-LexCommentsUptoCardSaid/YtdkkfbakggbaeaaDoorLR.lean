/- lex.Next for every goal and place; awake; what a law may lean on (the library's tables lie as they are laid). -/
import Derived.Test.YtdkkfbakggbaeaaDoorLPK
import Derived.Test.YtdkkfbakggbaeaaDoorLPL
import Derived.Test.YtdkkfbakggbaeaaDoorLPM
import Derived.Test.YtdkkfbakggbaeaaDoorLPN
import Derived.Test.YtdkkfbakggbaeaaDoorLPO
namespace Go.Proofs.YtdkkfbakggbaeaaDoor
open Go.RowKit

/-- the library's variables are as they are asked. -/
structure Lx (w : World) : Prop where
  tabs : Lib.Utf8Tabs 0 1 w
  max : MaxAt w
  spc : Lib.TabIs Tryd.prog w "strings.asciiSpace" .u8 Lib.asciiSpaceTab
theorem Lx.bel {w w' : World} (h : Lx w) (hb : Below w.heap.size w w') : Lx w' :=
  ⟨Utf8Tabs_below h.tabs hb, h.max.below hb, Joins.tab_stays (g := 3) (by kernel_rfl) h.spc hb (Nat.le_refl _)⟩
theorem Next_any (s : ByteArray) (p : Nat) (goal : Int) (w : World) (hs : s.size ≤ 16777216) (hp : p ≤ s.size) (hX : Lx w) (z : Int) (hz : z = p) :
    Calls Tryd.prog 14 #[.string s, .int .i64 z, .int .i64 goal] w fun e w' => NxPost s w (nxt s p goal) e w' := by
  subst hz
  by_cases hbad : goal < 1 ∨ 5 < goal ∨ (goal = 3 ∧ ¬ Lib.hasPrefix (s.data.toList.drop p) [125] = true)
  · have h := next_goal s p goal w hp hbad
    have e : nxt s p goal = .bad 0 501 := by unfold nxt; rw [if_pos hbad]
    rw [e]
    exact h
  · have hc : goal = 1 ∨ goal = 2 ∨ goal = 3 ∨ goal = 4 ∨ goal = 5 := by omega
    rcases hc with rfl | rfl | rfl | rfl | rfl
    · exact next_1 s p w hs hp hX.tabs hX.max hX.spc
    · exact next_2 s p w hs hp hX.tabs hX.max hX.spc
    · exact next_3 s p w hs hp hX.tabs hX.max hX.spc (Decidable.byContradiction fun h => hbad (.inr (.inr ⟨rfl, h⟩)))
    · exact next_4 s p w hs hp hX.tabs hX.max hX.spc
    · exact next_5 s p w hs hp hX.tabs hX.max hX.spc
theorem lnum_any (n : Int) (w : World) : Calls Tryd.prog 15 #[.int .i64 n] w fun e w' => e = .returned (.int .i64 n) ∧ w = w' := by
  go_enter Tryd.func15, Tryd.ntmps15
  go_wp2
  go_ret
  exact ⟨rfl, rfl⟩
theorem aw1 : nxt ⟨#[97, 32, 47, 42, 10, 42, 47, 32, 98]⟩ 1 1 = .fine 1 8 1 true [⟨2, ⟨#[47, 42, 10, 42, 47]⟩, 2, 7⟩] := by kernel_rfl
theorem aw2 : nxt ⟨#[47, 97, 91, 47, 93, 47, 103]⟩ 0 2 = .fine 6 0 7 false [] := by kernel_rfl
theorem aw3 : nxt ⟨#[51, 105, 110]⟩ 0 1 = .bad 0 503 := by kernel_rfl
theorem cmRow_get : ∀ (cs : List Cm) (i j : Nat) (hi : i < cs.length), j < 4 → (cmRow cs)[i * 4 + j]? = (cmCells cs[i])[j]?
  | [], _, _, h, _ => absurd h (by simp)
  | c :: cs, 0, j, _, hj => by
    simp only [cmRow, List.flatMap_cons, Nat.zero_mul, Nat.zero_add, List.getElem_cons_zero]
    rw [List.getElem?_append_left (by simp [cmCells]; omega)]
  | c :: cs, i + 1, j, hi, hj => by
    have h := cmRow_get cs i j (by simpa using hi) hj
    simp only [cmRow, List.flatMap_cons, List.getElem_cons_succ] at h ⊢
    rw [List.getElem?_append_right (by simp [cmCells]; omega), show (i + 1) * 4 + j - (cmCells c).length = i * 4 + j by simp [cmCells]; omega]
    exact h
theorem OwnC.form {B : Nat} {w : World} {v : Value} {cs : List Cm} (h : OwnC B w v cs) : ∃ p cap, v = .slice p cs.length cap := by
  rcases h.2 with ⟨e, hn⟩ | ⟨g, cap, cur, e, _⟩
  · exact ⟨none, 0, by rw [e, hn]⟩
  · exact ⟨_, cap, e⟩
theorem OwnC.slice {B : Nat} {w : World} {v : Value} {cs : List Cm} (h : OwnC B w v cs) (hc : cs ≠ []) : ∃ g cap, v = .slice (some ⟨g, 0, none⟩) cs.length cap ∧ B ≤ g ∧ g < w.heap.size ∧ cs.length ≤ cap ∧ ∀ i j, (hi : i < cs.length) → j < 4 → w.cell? ⟨g, i * 4 + j, none⟩ = (cmCells cs[i])[j]? := by
  rcases h.2 with ⟨e, hn⟩ | ⟨g, cap, cur, e, h1, h2, h3, h4, h5, h6⟩
  · exact absurd (List.length_eq_zero_iff.1 hn) hc
  · refine ⟨g, cap, e, h1, (Array.getElem?_eq_some_iff.1 h2).1, h3, fun i j hi hj => ?_⟩
    rw [← cmRow_get cs i j hi hj, ← h6]
    simp only [World.cell?]
    rw [h2]
    simp only
    rw [List.getElem?_take, if_pos (show i * 4 + j < cs.length * 4 by omega)]
    simp
theorem OwnC.bel {B : Nat} {w w' : World} {v : Value} {cs : List Cm} (h : OwnC B w v cs) (hb : Below w.heap.size w w') : OwnC B w' v cs := own_below h hb
set_option maxRecDepth 20000 in
set_option maxHeartbeats 2000000 in
theorem lawake_any (w : World) (hX : Lx w) : Calls Tryd.prog 13 #[] w fun e w' => e = .returned (.bool true) ∧ Below w.heap.size w w' := by
  have h1 := fun W h => Next_any ⟨#[97, 32, 47, 42, 10, 42, 47, 32, 98]⟩ 1 1 W (by decide) (by decide) h 1 rfl
  have h2 := fun W h => Next_any ⟨#[47, 97, 91, 47, 93, 47, 103]⟩ 0 2 W (by decide) (by decide) h 0 rfl
  have h3 := fun W h => Next_any ⟨#[51, 105, 110]⟩ 0 1 W (by decide) (by decide) h 0 rfl
  rw [aw1] at h1
  rw [aw2] at h2
  rw [aw3] at h3
  simp only [NxPost, Tk.val, Tk.cells, Tk.zero] at h1 h2 h3
  have e1 : (⟨#[97, 32, 47, 42, 10, 42, 47, 32, 98]⟩ : ByteArray).extract 8 (8 + 1) = ⟨#[98]⟩ := by kernel_rfl
  rw [e1] at h1
  have H1 := Lib.hid h1
  have H2 := Lib.hid h2
  have H3 := Lib.hid h3
  have HX := Lib.hid hX
  clear h1 h2 h3 hX e1
  go_enter Tryd.func13, Tryd.ntmps13
  go_upto_region 2 with (go_at_call 14; refine (H1.out _ HX.out).mono ?_; rintro e w1 ⟨v1, rfl, ho1, hb1⟩)
  obtain ⟨g1, cap1, rfl, hg1, hl1, hc1, hcell1⟩ := ho1.slice (by simp)
  have c1 : w1.cell? ⟨g1, 0, none⟩ = some (.int .i64 2) := hcell1 0 0 (by simp) (by decide)
  clear hcell1 ho1
  have k1 : TkAt (w1.alloc (.cells #[.int .i64 1, .string ⟨#[98]⟩, .int .i64 8, .int .i64 9, .bool true] 24)) w1.heap.size ⟨1, ⟨#[98]⟩, 8, 9, true⟩ := heap_alloc_new _ _
  have b1 := hb1.alloc hb1.size (.cells #[.int .i64 1, .string ⟨#[98]⟩, .int .i64 8, .int .i64 9, .bool true] 24)
  have r1 : (w1.alloc (.cells #[.int .i64 1, .string ⟨#[98]⟩, .int .i64 8, .int .i64 9, .bool true] 24)).cell? ⟨g1, 0, none⟩ = some (.int .i64 2) := ((Below.alloc (Below.refl _ w1) (Nat.le_refl _) _).cell hl1).trans c1
  have l1 : g1 < (w1.alloc (.cells #[.int .i64 1, .string ⟨#[98]⟩, .int .i64 8, .int .i64 9, .bool true] 24)).heap.size := by rw [World.size_alloc]; omega
  go_upto_region 3 with (go_at_call 14; refine (H2.out _ (HX.out.bel b1)).mono ?_; rintro e w2 ⟨v2, rfl, ho2, hb2⟩)
  have k2 : TkAt (w2.alloc (.cells #[.int .i64 6, .string ((⟨#[47, 97, 91, 47, 93, 47, 103]⟩ : ByteArray).extract 0 7), .int .i64 0, .int .i64 7, .bool false] 24)) w2.heap.size ⟨6, (⟨#[47, 97, 91, 47, 93, 47, 103]⟩ : ByteArray).extract 0 7, 0, 7, false⟩ := heap_alloc_new _ _
  have b2 := hb2.alloc hb2.size (.cells #[.int .i64 6, .string ((⟨#[47, 97, 91, 47, 93, 47, 103]⟩ : ByteArray).extract 0 7), .int .i64 0, .int .i64 7, .bool false] 24)
  go_upto_region 4 with (go_at_call 14; refine (H3.out _ ((HX.out.bel b1).bel b2)).mono ?_; rintro e w3 ⟨rfl, hb3⟩)
  have b3 := hb3.alloc hb3.size (.cells #[.int .i64 0, .string ⟨#[]⟩, .int .i64 0, .int .i64 0, .bool false] 24)
  have k2' := k2.bel b3
  have k1' := (k1.bel b2).bel b3
  have r1' := (b3.cell (Nat.lt_of_lt_of_le l1 b2.size)).trans ((b2.cell l1).trans r1)
  have b := (b1.trans (b2.mono b1.size)).trans (b3.mono (Nat.le_trans b1.size b2.size))
  generalize World.alloc w3 _ = w4 at *
  clear b1 b2 b3 k1 k2 r1 l1 c1 hb1 hb2 hb3 hl1 H1 H2 H3 HX
  generalize w1.heap.size = t1 at *
  generalize w2.heap.size = t2 at *
  obtain ⟨z0, z1, z2, z3, z4, y0, y1, y2, y3, y4⟩ := TkAt.facts k1'
  obtain ⟨x0, x1, x2, x3, x4, n0, n1, n2, n3, n4⟩ := TkAt.facts k2'
  go_wp2_with (go_at_call 15; refine (lnum_any _ _).mono ?_; rintro e w' ⟨rfl, rfl⟩)
  go_ret
  exact ⟨rfl, b⟩
end Go.Proofs.YtdkkfbakggbaeaaDoor
