/- lex.Next for every goal and place; awake; what a law may lean on (the library's tables lie as they are laid). -/
import Derived.Test.YteejjkfmmhegmaaGreatDoorLPK
import Derived.Test.YteejjkfmmhegmaaGreatDoorLPL
import Derived.Test.YteejjkfmmhegmaaGreatDoorLPM
import Derived.Test.YteejjkfmmhegmaaGreatDoorLPN
import Derived.Test.YteejjkfmmhegmaaGreatDoorLPO
namespace Go.Proofs.YteejjkfmmhegmaaGreatDoor
open Go.RowKit

/-- the library's variables are as they are asked. -/
structure Lx (w : World) : Prop where
  tabs : Lib.Utf8Tabs 2 3 w
  max : MaxAt w
  spc : Lib.TabIs Tryz.prog w "strings.asciiSpace" .u8 Lib.asciiSpaceTab
theorem Lx.bel {w w' : World} (h : Lx w) (hb : Below w.heap.size w w') : Lx w' :=
  ⟨Utf8Tabs_below h.tabs hb, h.max.below hb, Joins.tab_stays (g := 0) (by kernel_rfl) h.spc hb (Nat.le_refl _)⟩
theorem Next_any (s : ByteArray) (p : Nat) (goal : Int) (w : World) (hs : s.size ≤ 16777216) (hp : p ≤ s.size) (hX : Lx w) (z : Int) (hz : z = p) :
    Calls Tryz.prog 75 #[.string s, .int .i64 z, .int .i64 goal] w fun e w' => NxPost s w (nxt s p goal) e w' := by
  subst hz
  by_cases hbad : goal < 1 ∨ 5 < goal ∨ (goal = 3 ∧ ¬ Lib.hasPrefix (s.data.toList.drop p) [125] = true)
  · have h := next_goal s p goal w hp hbad
    have e : nxt s p goal = .bad 0 501 := by unfold nxt; rw [if_pos hbad]
    rw [e]
    exact h
  · have hc : goal = 1 ∨ goal = 2 ∨ goal = 3 ∨ goal = 4 ∨ goal = 5 := by omega
    rcases hc with rfl | rfl | rfl | rfl | rfl
    · exact next_1 s p w hs hp hX.tabs hX.max hX.spc
    · exact next_2 s p w hs hp hX.tabs hX.max hX.spc
    · exact next_3 s p w hs hp hX.tabs hX.max hX.spc (Decidable.byContradiction fun h => hbad (.inr (.inr ⟨rfl, h⟩)))
    · exact next_4 s p w hs hp hX.tabs hX.max hX.spc
    · exact next_5 s p w hs hp hX.tabs hX.max hX.spc
theorem lnum_any (n : Int) (w : World) : Calls Tryz.prog 20 #[.int .i64 n] w fun e w' => e = .returned (.int .i64 n) ∧ w = w' := by
  go_enter Tryz.func20, Tryz.ntmps20
  go_wp2
  go_ret
  exact ⟨rfl, rfl⟩
theorem cmRow_get : ∀ (cs : List Cm) (i j : Nat) (hi : i < cs.length), j < 4 → (cmRow cs)[i * 4 + j]? = (cmCells cs[i])[j]?
  | [], _, _, h, _ => absurd h (by simp)
  | c :: cs, 0, j, _, hj => by
    simp only [cmRow, List.flatMap_cons, Nat.zero_mul, Nat.zero_add, List.getElem_cons_zero]
    rw [List.getElem?_append_left (by simp [cmCells]; omega)]
  | c :: cs, i + 1, j, hi, hj => by
    have h := cmRow_get cs i j (by simpa using hi) hj
    simp only [cmRow, List.flatMap_cons, List.getElem_cons_succ] at h ⊢
    rw [List.getElem?_append_right (by simp [cmCells]; omega), show (i + 1) * 4 + j - (cmCells c).length = i * 4 + j by simp [cmCells]; omega]
    exact h
theorem OwnC.form {B : Nat} {w : World} {v : Value} {cs : List Cm} (h : OwnC B w v cs) : ∃ p cap, v = .slice p cs.length cap := by
  rcases h.2 with ⟨e, hn⟩ | ⟨g, cap, cur, e, _⟩
  · exact ⟨none, 0, by rw [e, hn]⟩
  · exact ⟨_, cap, e⟩
theorem OwnC.slice {B : Nat} {w : World} {v : Value} {cs : List Cm} (h : OwnC B w v cs) (hc : cs ≠ []) : ∃ g cap, v = .slice (some ⟨g, 0, none⟩) cs.length cap ∧ B ≤ g ∧ g < w.heap.size ∧ cs.length ≤ cap ∧ ∀ i j, (hi : i < cs.length) → j < 4 → w.cell? ⟨g, i * 4 + j, none⟩ = (cmCells cs[i])[j]? := by
  rcases h.2 with ⟨e, hn⟩ | ⟨g, cap, cur, e, h1, h2, h3, h4, h5, h6⟩
  · exact absurd (List.length_eq_zero_iff.1 hn) hc
  · refine ⟨g, cap, e, h1, (Array.getElem?_eq_some_iff.1 h2).1, h3, fun i j hi hj => ?_⟩
    rw [← cmRow_get cs i j hi hj, ← h6]
    simp only [World.cell?]
    rw [h2]
    simp only
    rw [List.getElem?_take, if_pos (show i * 4 + j < cs.length * 4 by omega)]
    simp
theorem OwnC.bel {B : Nat} {w w' : World} {v : Value} {cs : List Cm} (h : OwnC B w v cs) (hb : Below w.heap.size w w') : OwnC B w' v cs := own_below h hb
end Go.Proofs.YteejjkfmmhegmaaGreatDoor
