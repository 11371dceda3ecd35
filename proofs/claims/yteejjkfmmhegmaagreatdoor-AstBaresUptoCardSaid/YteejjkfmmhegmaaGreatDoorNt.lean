/- A node that came in, opened into a tree. No condition. -/
import Derived.Test.YteejjkfmmhegmaaGreatDoorKr
import Derived.ChangeSame
import Derived.ChangeShapes
import Derived.ChangeArms
import Derived.Deep.Heap
namespace Go.Proofs.YteejjkfmmhegmaaGreatDoor
open Go.RowKit Go.ChangeShapes Go.WideShapes

theorem list_of {α : Type} {P : Nat → α → Prop} : ∀ n : Nat, (∀ i, i < n → ∃ x, P i x) → ∃ xs : List α, xs.length = n ∧ ∀ i, (h : i < xs.length) → P i xs[i]
  | 0, _ => ⟨[], rfl, fun i h => absurd h (by simp)⟩
  | n + 1, h => by
    obtain ⟨xs, hl, hx⟩ := list_of n fun i hi => h i (by omega)
    obtain ⟨y, hy⟩ := h n (by omega)
    refine ⟨xs ++ [y], by simp [hl], fun i hi => ?_⟩
    by_cases hlt : i < xs.length
    · rw [List.getElem_append_left hlt]
      exact hx i hlt
    · have : i = xs.length := by simp at hi; omega
      subst this
      rw [List.getElem_append_right (Nat.le_refl _)]
      simp only [Nat.sub_self, List.getElem_cons_zero]
      rw [hl]
      exact hy
theorem bulk_kids {H : Type} : ∀ (ks : List Nd) (ds : List (DataW H)), ks.length = ds.length → (∀ i, (h : i < ks.length) → (h2 : i < ds.length) → ndSize ks[i] ≤ Rows.uptoBulk ds[i]) → ndSizes ks ≤ Rows.uptoBulkAll ds
  | [], _, _, _ => by rw [ndSizes]; omega
  | _ :: _, [], h, _ => by simp at h
  | k :: ks, d :: ds, hl, h => by
    rw [ndSizes, Rows.uptoBulkAll]
    have h0 := h 0 (by simp) (by simp)
    have h1 := bulk_kids ks ds (by simpa using hl) fun i hi hj => h (i + 1) (by simpa using hi) (by simpa using hj)
    simp only [List.getElem_cons_zero] at h0
    omega
theorem five {cs : List Value} (h : cs.length = 5) : ∃ a b c d e, cs = [a, b, c, d, e] := by
  match cs, h with
  | [a, b, c, d, e], _ => exact ⟨a, b, c, d, e, rfl⟩
theorem cellsNd : Tryz.prog.cellsOf 24 = 5 := by kernel_rfl
theorem cellsI : Tryz.prog.cellsOf 3 = 1 := by kernel_rfl
theorem cellsS : Tryz.prog.cellsOf 9 = 1 := by kernel_rfl
theorem cellsK : Tryz.prog.cellsOf 22 = 1 := by kernel_rfl
theorem open_nd {H : Type} {enc : TypeId × Value → H} {w : World} {sp : Nat → Bool} {hd : Bool} : ∀ (fuel : Nat) (cs : List Value) (x : DataW H × List MemPlace), DataW.trod enc Tryz.prog w 0 sp hd fuel 24 cs = some x →
    ∃ (n : Nd) (b : Option Addr) (cap : Nat), cs = [.int .i64 n.kind, .string n.text, .slice b n.kids.length cap, .int .i64 n.from', .int .i64 n.till] ∧ n.kids.length ≤ cap ∧ RowP w 0 w.heap.size n.kids b 0 ∧ ndSize n ≤ Rows.uptoBulk x.1 := by
  intro fuel
  induction fuel using Nat.strongRecOn with
  | _ fuel ih =>
    intro cs x h
    obtain ⟨xs, m, rfl, rfl, hl, hlen, hf⟩ := DataW.trod_struct Tryz.underlying24 h
    rw [cellsNd] at hl
    obtain ⟨v0, v1, v2, v3, v4, rfl⟩ := five hl
    have g0 : DataW.trod enc Tryz.prog w 0 sp hd m 3 ((List.drop 0 [v0, v1, v2, v3, v4]).take (Tryz.prog.cellsOf 3)) = xs[0]? := hf 0 _ rfl
    rw [cellsI] at g0
    change DataW.trod enc Tryz.prog w 0 sp hd m 3 [v0] = xs[0]? at g0
    have g1 : DataW.trod enc Tryz.prog w 0 sp hd m 9 ((List.drop 1 [v0, v1, v2, v3, v4]).take (Tryz.prog.cellsOf 9)) = xs[1]? := hf 1 _ rfl
    rw [cellsS] at g1
    change DataW.trod enc Tryz.prog w 0 sp hd m 9 [v1] = xs[1]? at g1
    have g2 : DataW.trod enc Tryz.prog w 0 sp hd m 22 ((List.drop 2 [v0, v1, v2, v3, v4]).take (Tryz.prog.cellsOf 22)) = xs[2]? := hf 2 _ rfl
    rw [cellsK] at g2
    change DataW.trod enc Tryz.prog w 0 sp hd m 22 [v2] = xs[2]? at g2
    have g3 : DataW.trod enc Tryz.prog w 0 sp hd m 3 ((List.drop 3 [v0, v1, v2, v3, v4]).take (Tryz.prog.cellsOf 3)) = xs[3]? := hf 3 _ rfl
    rw [cellsI] at g3
    change DataW.trod enc Tryz.prog w 0 sp hd m 3 [v3] = xs[3]? at g3
    have g4 : DataW.trod enc Tryz.prog w 0 sp hd m 3 ((List.drop 4 [v0, v1, v2, v3, v4]).take (Tryz.prog.cellsOf 3)) = xs[4]? := hf 4 _ rfl
    rw [cellsI] at g4
    change DataW.trod enc Tryz.prog w 0 sp hd m 3 [v4] = xs[4]? at g4
    have hlx : xs.length = 5 := hlen
    rw [List.getElem?_eq_getElem (by omega)] at g0 g1 g2 g3 g4
    obtain ⟨k, e0, _, _⟩ := DataW.trod_int Tryz.underlying3 g0
    obtain ⟨t, e1, _⟩ := DataW.trod_string Tryz.underlying9 g1
    obtain ⟨f, e3, _, _⟩ := DataW.trod_int Tryz.underlying3 g3
    obtain ⟨u, e4, _, _⟩ := DataW.trod_int Tryz.underlying3 g4
    obtain rfl : v0 = .int .i64 k := by simpa using e0
    obtain rfl : v1 = .string t := by simpa using e1
    obtain rfl : v3 = .int .i64 f := by simpa using e3
    obtain rfl : v4 = .int .i64 u := by simpa using e4
    have hbulk : 1 + Rows.uptoBulk xs[2].1 ≤ Rows.uptoBulk (.agg (xs.map (·.1))) := by
      match xs, hlx with
      | [a, b, c, d, e], _ =>
        simp only [List.map_cons, List.map_nil, Rows.uptoBulk, Rows.uptoBulkAll, List.getElem_cons_succ, List.getElem_cons_zero]
        omega
    rcases DataW.trod_slice Tryz.underlying22 g2 with ⟨e2, hx⟩ | ⟨a, len, cap, elems, rest, m', hm', e2, hx, hb, hlc, hmax, hel, hcell, _, _⟩
    · obtain rfl : v2 = .slice none 0 0 := by simpa using e2
      refine ⟨.mk k t [] f u, none, 0, rfl, Nat.le_refl _, ?_, ?_⟩
      · show RowP _ _ _ [] _ _
        rw [RowP]; trivial
      · show _ ≤ Rows.uptoBulk (.agg (xs.map (·.1)))
        rw [ndSize, ndSizes]
        omega
    · obtain rfl : v2 = .slice (some a) len cap := by simpa using e2
      have hkid : ∀ i, i < len → ∃ n : Nd, ∃ b c, (∀ j, j < 5 → w.cell? ((a.add (i * 5)).add j) = [Value.int .i64 n.kind, .string n.text, .slice b n.kids.length c, .int .i64 n.from', .int .i64 n.till][j]?) ∧ n.kids.length ≤ c ∧ RowP w 0 w.heap.size n.kids b 0 ∧ ∀ h : i < elems.length, ndSize n ≤ Rows.uptoBulk elems[i].1 := by
        intro i hi
        have hc := hcell i hi
        rw [cellsNd, List.getElem?_eq_getElem (by omega), Option.bind_eq_some_iff] at hc
        obtain ⟨cs', hcs, htr⟩ := hc
        obtain ⟨n, b, c, rfl, hnc, hrow, hsz⟩ := ih m' (by omega) cs' _ htr
        obtain ⟨_, _, hcl⟩ := World.cells?_some hcs
        exact ⟨n, b, c, hcl, hnc, hrow, fun _ => hsz⟩
      obtain ⟨ks, hks, hP⟩ := list_of len hkid
      refine ⟨.mk k t ks f u, some a, cap, ?_, ?_, ?_, ?_⟩
      · show _ = [_, _, Value.slice (some a) ks.length cap, _, _]
        rw [hks]; rfl
      · show ks.length ≤ cap
        omega
      · refine RowP_of fun j hj => ?_
        have hj' : j < ks.length := hj
        obtain ⟨b2, c2, hcl, hnc, hrow, _⟩ := hP j hj'
        obtain ⟨b, off, spot⟩ := a
        obtain ⟨_, _, hcl0, _⟩ := hP 0 (by omega)
        have h0 := hcl0 0 (by decide)
        have hspot : spot = none := by simpa [Addr.add] using World.cell?_spot h0
        subst hspot
        refine ⟨b, off, rfl, ?_⟩
        have hcl' : ∀ i, i < 5 → w.cell? ⟨b, off + (0 + j) * 5 + i, none⟩ = [Value.int .i64 ks[j].kind, .string ks[j].text, .slice b2 ks[j].kids.length c2, .int .i64 ks[j].from', .int .i64 ks[j].till][i]? := fun i hi => by
          have := hcl i hi
          rw [add_plain, add_plain] at this
          rw [Nat.zero_add]
          exact this
        have h0' := hcl' 0 (by decide)
        rw [NdC_eq]
        exact ⟨b2, c2, Nat.zero_le _, World.block_lt_of_cell? _ _ h0', h0', hcl' 1 (by decide), hcl' 2 (by decide), hcl' 3 (by decide), hcl' 4 (by decide), hnc, hrow⟩
      · rw [ndSize]
        have h1 := bulk_kids (H := H) ks (elems.map (·.1)) (by simp [hks, hel]) fun i hi hj => by
          obtain ⟨b2, c2, _, _, _, hs⟩ := hP i hi
          rw [List.getElem_map]
          exact hs (by simpa using hj)
        have e0 : xs[2].1 = DataW.slice (elems.map (·.1)) (rest.map (·.1)) := by rw [hx]
        rw [e0] at hbulk
        have e : Rows.uptoBulk (DataW.slice (elems.map (·.1)) (rest.map (·.1))) = Rows.uptoBulkAll (elems.map (·.1)) + Rows.uptoBulkAll (rest.map (·.1)) + 1 := by simp only [Rows.uptoBulk]
        show _ ≤ Rows.uptoBulk (.agg (xs.map (·.1)))
        omega
end Go.Proofs.YteejjkfmmhegmaaGreatDoor
