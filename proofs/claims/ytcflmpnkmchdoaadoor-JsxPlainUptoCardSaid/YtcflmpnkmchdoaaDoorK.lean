/- Contracts of the reference's small functions of package platenref7: entity, digit, number. No condition but the sizes that are written at each. -/
import Derived.Test.YtcflmpnkmchdoaaDoorA
import Derived.Test.YtcflmpnkmchdoaaDoorD
import Derived.Test.YtcflmpnkmchdoaaDoorI
namespace Go.Proofs.YtcflmpnkmchdoaaDoor
open Go.RowKit

theorem hexV_eq (c : UInt8) : hexV c = if 48 ≤ c.toNat ∧ c.toNat ≤ 57 then c.toNat - 48 else if 97 ≤ c.toNat ∧ c.toNat ≤ 102 then c.toNat - 87 else if 65 ≤ c.toNat ∧ c.toNat ≤ 70 then c.toNat - 55 else 16 := by
  have h : ∀ n : Fin 256, (if 48 ≤ n.val ∧ n.val ≤ 57 then n.val - 48 else if 97 ≤ (n.val ||| 32) ∧ (n.val ||| 32) ≤ 102 ∧ 65 ≤ n.val then (n.val ||| 32) - 97 + 10 else 16) = if 48 ≤ n.val ∧ n.val ≤ 57 then n.val - 48 else if 97 ≤ n.val ∧ n.val ≤ 102 then n.val - 87 else if 65 ≤ n.val ∧ n.val ≤ 70 then n.val - 55 else 16 := by decide +kernel
  exact h ⟨c.toNat, c.toNat_lt⟩
/-- a digit's value in a base; -1: it is none. -/
def digV (c : UInt8) (base : Nat) : Int := if hexV c < base then (hexV c : Int) else -1
set_option maxHeartbeats 400000 in
theorem digit_any (c : UInt8) (base : Nat) (w : World) (hb : base ≤ 16) :
    Calls Tryd.prog 40 #[.int .u8 c.toNat, .int .i64 base] w fun e w' => e = .returned (.int .i64 (digV c base)) ∧ w = w' := by
  have hc := c.toNat_lt
  have HE := Lib.hid (hexV_eq c)
  go_enter Tryd.func40, Tryd.ntmps40
  go_wp2
  all_goals
    go_ret
    refine ⟨ret_int ?_, rfl⟩
    have e := HE.out
    unfold digV
    rw [e]
    repeat' split
    all_goals omega

theorem World.heap_alloc_lt (w : World) (o : Obj) (k : Nat) (h : k < w.heap.size) : (w.alloc o).heap[k]? = w.heap[k]? := Below.heap_alloc w o k h
theorem alloc_two_new (w : World) (o o' : Obj) : ((w.alloc o).alloc o').heap[w.heap.size + 1]? = some o' := by
  have h := World.alloc_heap_new (w.alloc o) o'
  rwa [World.size_alloc] at h
theorem cell_of {w : World} {b k : Nat} {vs : Array Value} {t : TypeId} {v : Value} (h : w.heap[b]? = some (.cells vs t)) (hv : vs[k]? = some v) : w.cell? ⟨b, k, none⟩ = some v := by
  simp [World.cell?, h, hv]
/-- the names that entities have. -/
def refNames : List (List UInt8) := [[97, 109, 112], [108, 116], [103, 116], [113, 117, 111, 116], [97, 112, 111, 115], [110, 98, 115, 112], [99, 111, 112, 121], [114, 101, 103], [104, 101, 108, 108, 105, 112], [109, 100, 97, 115, 104], [110, 100, 97, 115, 104]]
def refMeans : List Nat := [38, 60, 62, 34, 39, 160, 169, 174, 8230, 8212, 8211]
theorem named_at : ∀ (k : Fin 11), named (refNames[k.val]!) = refMeans[k.val]! := by decide +kernel
theorem named_none (l : List UInt8) (h : ∀ j, j < 11 → l ≠ refNames[j]!) : named l = 0 := by
  have g : ∀ j, j < 11 → (l == refNames[j]!) = false := fun j hj => by rw [beq_eq_false_iff_ne]; exact h j hj
  have h0 := g 0 (by omega); have h1 := g 1 (by omega); have h2 := g 2 (by omega); have h3 := g 3 (by omega); have h4 := g 4 (by omega); have h5 := g 5 (by omega)
  have h6 := g 6 (by omega); have h7 := g 7 (by omega); have h8 := g 8 (by omega); have h9 := g 9 (by omega); have h10 := g 10 (by omega)
  simp only [refNames, List.getElem!_cons_zero, List.getElem!_cons_succ] at h0 h1 h2 h3 h4 h5 h6 h7 h8 h9 h10
  simp only [named, h0, h1, h2, h3, h4, h5, h6, h7, h8, h9, h10, Bool.false_eq_true, if_false]

set_option maxHeartbeats 4000000 in
theorem entity_ref (s : ByteArray) (w : World) :
    Calls Tryd.prog 26 #[.string s] w fun e w' => e = .returned (.int .i32 (named s.data.toList)) ∧ Below w.heap.size w w' := by
  go_enter Tryd.func26, Tryd.ntmps26
  go_wp2
  generalize hw0 : World.alloc (World.alloc w _) _ = w0
  have hb0 : Below w.heap.size w w0 := by
    rw [← hw0]
    exact ((Below.refl _ _).alloc (Nat.le_refl _) _).alloc (by rw [World.size_alloc]; omega) _
  have hn0 : ∀ k : Fin 11, w0.cell? ⟨w.heap.size, k.val, none⟩ = some (strV refNames[k.val]!) := by
    intro k
    rw [← hw0]
    refine cell_of ((World.heap_alloc_lt _ _ _ (by rw [World.size_alloc]; omega)).trans (World.alloc_heap_new _ _)) ?_
    match k with
    | ⟨0, _⟩ => rfl
    | ⟨1, _⟩ => rfl
    | ⟨2, _⟩ => rfl
    | ⟨3, _⟩ => rfl
    | ⟨4, _⟩ => rfl
    | ⟨5, _⟩ => rfl
    | ⟨6, _⟩ => rfl
    | ⟨7, _⟩ => rfl
    | ⟨8, _⟩ => rfl
    | ⟨9, _⟩ => rfl
    | ⟨10, _⟩ => rfl
  have hm0 : ∀ k : Fin 11, w0.cell? ⟨w.heap.size + 1, k.val, none⟩ = some (.int .i32 (refMeans[k.val]! : Nat)) := by
    intro k
    rw [← hw0]
    refine cell_of (alloc_two_new w _ _) ?_
    match k with
    | ⟨0, _⟩ => rfl
    | ⟨1, _⟩ => rfl
    | ⟨2, _⟩ => rfl
    | ⟨3, _⟩ => rfl
    | ⟨4, _⟩ => rfl
    | ⟨5, _⟩ => rfl
    | ⟨6, _⟩ => rfl
    | ⟨7, _⟩ => rfl
    | ⟨8, _⟩ => rfl
    | ⟨9, _⟩ => rfl
    | ⟨10, _⟩ => rfl
  clear hw0
  have HN0 := Lib.hid hn0
  have HM0 := Lib.hid hm0
  clear hn0 hm0
  go_loopw [5] (fun i wr => ∃ k : Nat, k ≤ 11 ∧ i = .int .i64 k ∧ (∀ j, j < k → s.data.toList ≠ refNames[j]!) ∧ Below w.heap.size w wr ∧ ∀ p, wr.cell? p = w0.cell? p) (fun i _ => 11 - (intOf i).toNat)
  case atStart => exact ⟨0, Nat.zero_le _, rfl, fun j hj => by omega, hb0, fun _ => rfl⟩
  case round =>
    obtain ⟨k, hk, rfl, hnot, hbel, hcell⟩ := hrel
    have HNot := Lib.hid hnot
    clear hnot
    by_cases hlt : k < 11
    · have hn := HN0.out ⟨k, hlt⟩
      have hm := HM0.out ⟨k, hlt⟩
      rw [← hcell] at hn hm
      generalize hx : refNames[k]! = x at *
      generalize hy : refMeans[k]! = y at *
      have HX := Lib.hid hx
      have HY := Lib.hid hy
      replace hn : wr.cell? ⟨w.heap.size, k, none⟩ = some (.string ⟨x.toArray⟩) := hn
      replace hm : wr.cell? ⟨w.heap.size + 1, k, none⟩ = some (.int .i32 (y : Nat)) := hm
      clear hx hy
      have HC := Lib.hid hcell
      clear hcell
      go_wp2_with fail
      · rename_i h
        have hxs : s.data.toList = refNames[k]! := by rw [HX.out, Lib.toList_data] at *; exact (eq_of_beq h).symm
        have hv : named s.data.toList = y := by rw [hxs, ← HY.out]; exact named_at ⟨k, hlt⟩
        have HV := Lib.hid hv
        clear h hxs hv
        go_ret
        exact ⟨by rw [HV.out]; rfl, by first | exact hbel | exact bel_drewN hbel _⟩
      · rename_i h
        have hxs : ∀ j, j < k + 1 → s.data.toList ≠ refNames[j]! := by
          intro j hj
          rcases Nat.lt_or_ge j k with h' | h'
          · exact HNot.out j h'
          · obtain rfl : j = k := by omega
            rw [HX.out, ← Lib.toList_data]
            intro e
            rw [e] at h
            simp at h
        have HV := Lib.hid hxs
        clear h hxs
        go_roundw
        case rel => exact ⟨k + 1, by omega, by go_num, HV.out, by first | exact hbel | exact bel_drewN hbel _, fun p => HC.out p⟩
        case measure => simp [intOf]; omega
    · obtain rfl : k = 11 := by omega
      have hv := named_none _ HNot.out
      have HV := Lib.hid hv
      clear hcell hv
      go_wp2_with fail
      go_ret
      exact ⟨by rw [HV.out]; rfl, by first | exact hbel | exact bel_drewN hbel _⟩


/-- a number's value; -1: it is none. -/
def numX (base : Nat) (l : List UInt8) : Int := if (numR base l).2 = true then ((numR base l).1 : Int) else -1
theorem numX_go (base m : Nat) (l0 : List UInt8) (h : numGo base 0 l0 = some m) (h0 : l0 ≠ []) : numX base l0 = m := by
  have e : l0.isEmpty = false := by cases l0 with | nil => exact absurd rfl h0 | cons => rfl
  simp [numX, numR, h, e]
theorem numX_none (base : Nat) (l0 : List UInt8) (h : numGo base 0 l0 = none) : numX base l0 = -1 := by simp [numX, numR, h]

theorem numX_empty (base : Nat) (u : ByteArray) (h : u.toList.isEmpty = true) : numX base u.data.toList = -1 := by
  rw [Lib.toList_data] at h
  rw [List.isEmpty_iff.1 h]
  rfl
theorem ne_of_not_empty {u : ByteArray} (h : u.toList.isEmpty = false) : u.data.toList ≠ [] := by
  intro e
  rw [Lib.toList_data, e] at h
  cases h
set_option maxHeartbeats 1000000 in
theorem number_ref16 (s t u : ByteArray) (w : World) (ht : s.extract 1 s.size = t) (hu : t.extract 1 t.size = u) (h0 : 0 < s.size) (ht0 : 0 < t.size) (hx : ((((t[0]'ht0).toNat : Nat) : Int) == 120) = true) (hus : u.size ≤ 16777216) :
    Calls Tryd.prog 27 #[.string s] w fun e w' => e = .returned (.int .i64 (numX 16 u.data.toList)) ∧ w = w' := by
  go_enter Tryd.func27, Tryd.ntmps27
  go_wp2
  · have h : u.toList.isEmpty = true := ‹_›
    have hv := numX_empty 16 _ h
    have HV := Lib.hid hv
    clear h hv
    go_ret
    exact ⟨by rw [HV.out]; rfl, rfl⟩
  · rename_i h K hcont
    have HE := Lib.hid h
    clear h ht hu
    go_loop [5, 4, 6] (fun i x d => ∃ k m : Nat, k ≤ u.size ∧ i = .int .i64 k ∧ m ≤ 1114112 ∧ x = .int .i64 m ∧ numGo 16 0 u.data.toList = numGo 16 m (u.data.toList.drop k)) (fun i _ _ => u.size - (intOf i).toNat)
    case atStart => exact ⟨0, 0, Nat.zero_le _, rfl, by omega, rfl, rfl⟩
    case round =>
      obtain ⟨k, m, hk, rfl, hm, rfl, hg⟩ := hrel
      by_cases hlt : k < u.size
      · have hv := hexV_le u[k]
        have HG : Hid (numGo 16 0 u.data.toList = if hexV u[k] < 16 then numGo 16 (min (m * 16 + hexV u[k]) 1114112) (u.data.toList.drop (k + 1)) else none) := by
          rw [hg, drop_cons u k hlt]; rfl
        clear hg
        have hdig := digit_any u[k] 16 w (by omega)
        by_cases hd : hexV u[k] < 16
        · rw [show digV u[k] 16 = (hexV u[k] : Int) from if_pos hd] at hdig
          have HD := Lib.hid hdig
          clear hdig
          go_wp2_with (go_at_call 40; refine HD.out.mono ?_; rintro e w' ⟨rfl, rfl⟩)
          go_round
          case rel => exact ⟨k + 1, min (m * 16 + hexV u[k]) 1114112, by omega, by go_num, by omega, by congr 1; first | omega | (split <;> omega), by rw [HG.out, if_pos hd]⟩
          case measure => simp [intOf]; omega
        · rw [show digV u[k] 16 = -1 from if_neg hd] at hdig
          have HD := Lib.hid hdig
          clear hdig
          go_wp2_with (go_at_call 40; refine HD.out.mono ?_; rintro e w' ⟨rfl, rfl⟩)
          go_ret
          refine ⟨ret_int ?_, rfl⟩
          have h0 := HG.out
          rw [if_neg hd] at h0
          rw [numX_none _ _ h0]
      · obtain rfl : k = u.size := by omega
        rw [drop_all] at hg
        have HG := Lib.hid hg
        have HNE := Lib.hid (ne_of_not_empty HE.out)
        clear hg
        go_wp2
        go_ret
        refine ⟨ret_int ?_, rfl⟩
        rw [numX_go _ m _ HG.out HNE.out]

set_option maxHeartbeats 1000000 in
theorem number_ref10 (s t : ByteArray) (w : World) (ht : s.extract 1 s.size = t) (h0 : 0 < s.size) (ht0 : 0 < t.size) (hx : ((((t[0]'ht0).toNat : Nat) : Int) == 120) = false) (hus : t.size ≤ 16777216) :
    Calls Tryd.prog 27 #[.string s] w fun e w' => e = .returned (.int .i64 (numX 10 t.data.toList)) ∧ w = w' := by
  go_enter Tryd.func27, Tryd.ntmps27
  go_wp2
  · have h : t.toList.isEmpty = true := ‹_›
    have hv := numX_empty 10 _ h
    have HV := Lib.hid hv
    clear h hv
    go_ret
    exact ⟨by rw [HV.out]; rfl, rfl⟩
  · rename_i h K hcont
    have HE := Lib.hid h
    clear h ht
    go_loop [5, 4, 6] (fun i x d => ∃ k m : Nat, k ≤ t.size ∧ i = .int .i64 k ∧ m ≤ 1114112 ∧ x = .int .i64 m ∧ numGo 10 0 t.data.toList = numGo 10 m (t.data.toList.drop k)) (fun i _ _ => t.size - (intOf i).toNat)
    case atStart => exact ⟨0, 0, Nat.zero_le _, rfl, by omega, rfl, rfl⟩
    case round =>
      obtain ⟨k, m, hk, rfl, hm, rfl, hg⟩ := hrel
      by_cases hlt : k < t.size
      · have hv := hexV_le t[k]
        have HG : Hid (numGo 10 0 t.data.toList = if hexV t[k] < 10 then numGo 10 (min (m * 10 + hexV t[k]) 1114112) (t.data.toList.drop (k + 1)) else none) := by
          rw [hg, drop_cons t k hlt]; rfl
        clear hg
        have hdig := digit_any t[k] 10 w (by omega)
        by_cases hd : hexV t[k] < 10
        · rw [show digV t[k] 10 = (hexV t[k] : Int) from if_pos hd] at hdig
          have HD := Lib.hid hdig
          clear hdig
          go_wp2_with (go_at_call 40; refine HD.out.mono ?_; rintro e w' ⟨rfl, rfl⟩)
          go_round
          case rel => exact ⟨k + 1, min (m * 10 + hexV t[k]) 1114112, by omega, by go_num, by omega, by congr 1; first | omega | (split <;> omega), by rw [HG.out, if_pos hd]⟩
          case measure => simp [intOf]; omega
        · rw [show digV t[k] 10 = -1 from if_neg hd] at hdig
          have HD := Lib.hid hdig
          clear hdig
          go_wp2_with (go_at_call 40; refine HD.out.mono ?_; rintro e w' ⟨rfl, rfl⟩)
          go_ret
          refine ⟨ret_int ?_, rfl⟩
          have h0 := HG.out
          rw [if_neg hd] at h0
          rw [numX_none _ _ h0]
      · obtain rfl : k = t.size := by omega
        rw [drop_all] at hg
        have HG := Lib.hid hg
        have HNE := Lib.hid (ne_of_not_empty HE.out)
        clear hg
        go_wp2
        go_ret
        refine ⟨ret_int ?_, rfl⟩
        rw [numX_go _ m _ HG.out HNE.out]

set_option maxHeartbeats 1000000 in
theorem number_ref0 (s t : ByteArray) (w : World) (ht : s.extract 1 s.size = t) (h0 : 0 < s.size) (ht0 : t.size = 0) :
    Calls Tryd.prog 27 #[.string s] w fun e w' => e = .returned (.int .i64 (-1)) ∧ w = w' := by
  have h : t.toList.isEmpty = true := by rw [Lib.toList_data, List.isEmpty_iff_length_eq_zero, ofl]; exact ht0
  go_enter Tryd.func27, Tryd.ntmps27
  go_wp2
  go_ret
  exact ⟨rfl, rfl⟩
/-- what number answers of #..; -1: no number. -/
def numZ (l : List UInt8) : Int := if (l[1]? == some 120) = true then numX 16 (l.drop 2) else numX 10 (l.drop 1)
theorem number_ref (s : ByteArray) (w : World) (h0 : 0 < s.size) (hs : s.size ≤ 16777216) :
    Calls Tryd.prog 27 #[.string s] w fun e w' => e = .returned (.int .i64 (numZ s.data.toList)) ∧ w = w' := by
  have hd : (s.extract 1 s.size).data.toList = s.data.toList.drop 1 := by
    rw [Lib.extract_data]; exact List.take_of_length_le (by rw [List.length_drop, ofl]; exact Nat.le_refl _)
  have hz : (s.extract 1 s.size).size = s.size - 1 := by rw [← ofl, hd, List.length_drop, ofl]
  by_cases h1 : 1 < s.size
  · have ht0 : 0 < (s.extract 1 s.size).size := by omega
    have hg : s.data.toList[1]? = some ((s.extract 1 s.size)[0]'ht0) := by
      rw [← get_data _ 0 ht0, hd, List.getElem?_drop]
    by_cases hx : ((s.extract 1 s.size)[0]'ht0).toNat = 120
    · have e : numZ s.data.toList = numX 16 ((s.extract 1 s.size).extract 1 (s.extract 1 s.size).size).data.toList := by
        have he : (s.extract 1 s.size)[0]'ht0 = 120 := UInt8.toNat.inj hx
        rw [numZ, hg, he, if_pos (by decide), Lib.extract_data, hd, List.drop_drop]
        rw [List.take_of_length_le (by rw [List.length_drop, hz, ofl]; omega)]
      rw [e]
      exact number_ref16 s _ _ w rfl rfl h0 ht0 (by rw [hx]; rfl) (by simp; omega)
    · have e : numZ s.data.toList = numX 10 (s.extract 1 s.size).data.toList := by
        rw [numZ, hg, if_neg, hd]
        intro h
        rw [beq_iff_eq, Option.some.injEq] at h
        exact hx (by rw [h]; rfl)
      rw [e]
      exact number_ref10 s _ w rfl h0 ht0 (by rw [beq_eq_false_iff_ne]; omega) (by omega)
  · have e : numZ s.data.toList = -1 := by
      have hl : s.data.toList.length = 1 := by rw [ofl]; omega
      rw [numZ, List.getElem?_eq_none (by omega), if_neg (by decide), List.drop_eq_nil_of_le (by omega)]
      rfl
    rw [e]
    exact number_ref0 s _ w rfl h0 (by omega)
end Go.Proofs.YtcflmpnkmchdoaaDoor
