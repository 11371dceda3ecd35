/- The contract of SpoilTexts: it writes into the row that it is handed and nowhere else. Condition: the row is one of the caller's own, of at most 2^25 texts of at most 2^25 bytes. -/
import Derived.Test.YtcflmpnkmchdoaaDoorU
namespace Go.Proofs.YtcflmpnkmchdoaaDoor
open Go.RowKit

/-- but for block g the world is as it was. -/
structure Spoilt (g : Nat) (w wr : World) : Prop where
  os : wr.os = w.os
  tape : wr.tape = w.tape
  output : wr.output = w.output
  size : w.heap.size ≤ wr.heap.size
  block : ∀ k, k ≠ g → wr.heap[k]? = w.heap[k]?
theorem Spoilt.refl (g : Nat) (w : World) : Spoilt g w w := ⟨rfl, rfl, rfl, Nat.le_refl _, fun _ _ => rfl⟩
theorem Spoilt.setCell {g : Nat} {w wr : World} (h : Spoilt g w wr) (j : Nat) (u : Value) : Spoilt g w (wr.setCell ⟨g, j, none⟩ u) :=
  ⟨h.os, h.tape, h.output, by have := h.size; simpa [World.setCell] using this, fun k hk => (Below.heap_setCell _ _ _ _ hk).trans (h.block k hk)⟩
theorem Spoilt.below {g B : Nat} {w wr : World} (h : Spoilt g w wr) (hg : B ≤ g) : Below B w wr :=
  ⟨h.os, h.tape, h.output, h.size, fun k hk => h.block k (by omega)⟩
theorem Spoilt.row {g B size n : Nat} {e : TypeId} {v : Value} {xs : List Value} {w wr : World} (h : Spoilt g w wr) (ho : w.ownsRow B e size v n xs) (hg : v.ownBlock ≠ some g) : wr.ownsRow B e size v n xs := by
  refine ⟨ho.1, ?_⟩
  rcases ho.2 with h2 | ⟨g', cap, cur, hv, hb, hh, r⟩
  · exact .inl h2
  · refine .inr ⟨g', cap, cur, hv, hb, ?_, r⟩
    rw [h.block g' (fun e => hg (by rw [hv, ← e]; rfl))]
    exact hh
def spoilRel (g B : Nat) (w wr : World) (cap k : Nat) (xs : List (List UInt8)) : Prop :=
  ∃ ys : List (List UInt8), ys.length = xs.length ∧ wr.ownsRow B 9 1 (.slice (some ⟨g, 0, none⟩) xs.length cap) xs.length (ys.map strV) ∧ (∀ j, k ≤ j → ys[j]? = xs[j]?) ∧ Spoilt g w wr

theorem map_set_str {ys : List (List UInt8)} {k : Nat} {hk : k < ys.length} {X : ByteArray} (h : (⟨(ys[k]).toArray⟩ : ByteArray) = X) : (ys.set k (126 :: ys[k])).map strV = (ys.map strV).set k (.string (⟨#[126]⟩ ++ X)) := by
  have e : strV (126 :: ys[k]) = .string (⟨#[126]⟩ ++ X) := by
    subst h
    exact congrArg Value.string (byteArray_ext _ _ (by simp))
  rw [List.map_set, e]
set_option maxHeartbeats 1000000 in
theorem spoil_some (g cap : Nat) (xs : List (List UInt8)) (B : Nat) (w : World) (h : Texts w B (.slice (some ⟨g, 0, none⟩) xs.length cap) xs) (hxs : xs.length ≤ 33554432) (hlen : ∀ x ∈ xs, x.length ≤ 33554432) :
    Calls Tryd.prog 18 #[.slice (some ⟨g, 0, none⟩) xs.length cap] w fun e w' => e = .returned (.tuple #[]) ∧ Spoilt g w w' := by
  have HL := Lib.hid hlen
  have H0 := Lib.hid h
  clear hlen h
  go_enter Tryd.func18, Tryd.ntmps18
  go_wp2_with fail
  go_loopw [2] (fun i wr => ∃ k : Nat, k ≤ xs.length ∧ i = .int .i64 k ∧ spoilRel g B w wr cap k xs) (fun i _ => xs.length - (intOf i).toNat)
  case atStart => exact ⟨0, Nat.zero_le _, rfl, xs, rfl, H0.out, fun _ _ => rfl, Spoilt.refl _ _⟩
  case round =>
    obtain ⟨k, hk, rfl, ys, hyl, hown, hys, hsp⟩ := hrel
    by_cases hlt : k < xs.length
    · have hlt2 : k < ys.length := by omega
      have hcell : wr.cell? ⟨g, k, none⟩ = some (.string ⟨(ys[k]).toArray⟩) := by
        rw [World.ownsRow.cellAt hown k (by omega), List.getElem?_map, List.getElem?_eq_getElem hlt2]
        rfl
      have hfz := World.ownsRow.frozenAt hown k
      have hyk : ys[k].length ≤ 33554432 := by
        have e := hys k (Nat.le_refl _)
        rw [List.getElem?_eq_getElem hlt2, List.getElem?_eq_getElem hlt] at e
        rw [Option.some.inj e]
        exact HL.out _ (List.getElem_mem hlt)
      have hSz : (⟨(ys[k]).toArray⟩ : ByteArray).size = ys[k].length := rfl
      generalize hX : (⟨(ys[k]).toArray⟩ : ByteArray) = X at *
      have HO := Lib.hid hown
      have HY := Lib.hid hys
      have HX := Lib.hid hX
      have HYL := Lib.hid hyl
      clear hown hys hX hyl
      go_wp2_with fail
      go_roundw
      case rel =>
        refine ⟨k + 1, by omega, by go_num, ys.set k (126 :: ys[k]), by rw [List.length_set]; exact HYL.out, ?_, ?_, hsp.setCell _ _⟩
        · have h := (World.ownsRow.stored HO.out k (.string (⟨#[126]⟩ ++ X))).1
          rw [← map_set_str HX.out] at h
          exact h
        · intro j hj
          rw [List.getElem?_set_ne (by omega)]
          exact HY.out j (by omega)
      case measure => simp [intOf]; omega
    · obtain rfl : k = xs.length := by omega
      go_wp2_with fail
      go_end0
      exact ⟨rfl, hsp⟩
theorem spoil_none (w : World) : Calls Tryd.prog 18 #[.slice none 0 0] w fun e w' => e = .returned (.tuple #[]) ∧ w = w' := by
  go_enter Tryd.func18, Tryd.ntmps18
  go_wp2_with fail
  go_loop [2] (fun i => i = .int .i64 0) (fun i => 0)
  case atStart => rfl
  case round =>
    subst hrel
    go_wp2_with fail
    go_end0
    exact ⟨rfl, rfl⟩
theorem wordsGo_mem : ∀ (l cur : List UInt8) (x : List UInt8), x ∈ wordsGo cur l → x.length ≤ cur.length + l.length
  | [], cur, x, h => by
    rw [wordsGo] at h
    split at h
    · cases h
    · simp at h; subst h; omega
  | c :: l, cur, x, h => by
    rw [wordsGo] at h
    rw [List.length_cons]
    split at h
    · split at h
      · have := wordsGo_mem l [] x h; simp at this; omega
      · rcases List.mem_cons.1 h with rfl | h
        · omega
        · have := wordsGo_mem l [] x h; simp at this; omega
    · have := wordsGo_mem l (cur ++ [c]) x h; simp at this; omega
theorem words_mem {l x : List UInt8} (h : x ∈ wordsL l) : x.length ≤ l.length := by have := wordsGo_mem l [] x h; simpa using this
/-- SpoilTexts, of a row of its caller's own: rows of other blocks stay. -/
theorem spoil_any (v : Value) (xs : List (List UInt8)) (B : Nat) (w : World) (h : Texts w B v xs) (hxs : xs.length ≤ 33554432) (hlen : ∀ x ∈ xs, x.length ≤ 33554432) :
    Calls Tryd.prog 18 #[v] w fun e w' => e = .returned (.tuple #[]) ∧ Below B w w' ∧ ∀ (B' : Nat) v' ys, Texts w B' v' ys → (∀ g, v.ownBlock = some g → g < B') → Texts w' B' v' ys := by
  have h' := h
  unfold Texts at h'
  rcases h'.2 with ⟨rfl, h0⟩ | ⟨g, cap, cur, rfl, hb, _⟩
  · refine (spoil_none w).mono fun e w' ⟨he, hw⟩ => ?_
    subst hw
    exact ⟨he, Below.refl _ _, fun _ _ _ h _ => h⟩
  · refine (spoil_some g cap xs B w h hxs hlen).mono fun e w' ⟨he, hs⟩ => ⟨he, hs.below hb, fun B' v' ys ht hg => ?_⟩
    have hlt := hg g rfl
    refine Spoilt.row hs ht fun e => ?_
    have ht' : w.ownsRow B' 9 1 v' ys.length (ys.map strV) := ht
    rcases ht'.2 with ⟨rfl, _⟩ | ⟨g', cap', cur', rfl, hb', _⟩
    · cases e
    · cases e
      exact absurd (show g' < B' from hlt) (by omega)
end Go.Proofs.YtcflmpnkmchdoaaDoor
