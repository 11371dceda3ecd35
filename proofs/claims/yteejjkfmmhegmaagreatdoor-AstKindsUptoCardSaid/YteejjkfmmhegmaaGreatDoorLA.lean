/- Contracts of package uni's character tests. No condition. -/
import Derived.Test.YteejjkfmmhegmaaGreatDoorBase
namespace Go.Proofs.YteejjkfmmhegmaaGreatDoor
open Go.RowKit

/-- numbers in a block. -/
def IntsAt (w : World) (g : Nat) (l : List Int) : Prop := ∀ j (h : j < l.length), w.cell? ⟨g, j, none⟩ = some (.int .i64 l[j])
theorem intsAt_new (w : World) (l : List Int) (t : TypeId) : IntsAt (w.alloc (.cells (l.map (Value.int .i64)).toArray t)) w.heap.size l := by
  intro j h
  have e : (w.alloc (.cells (l.map (Value.int .i64)).toArray t)).heap[w.heap.size]? = some (.cells (l.map (Value.int .i64)).toArray t (0, 0)) := heap_alloc_new _ _
  simp only [World.cell?, e]
  simp [h]
theorem intsAt_new' (w : World) (l : List Int) (t : TypeId) (g : Nat) (hg : g = w.heap.size) : IntsAt (w.alloc (.cells (l.map (Value.int .i64)).toArray t)) g l := by
  subst hg
  exact intsAt_new w l t
def oneL (r : Int) : List Int → Bool
  | a :: l => if r = a then true else oneL r l
  | _ => false
theorem oneL_drop (r : Int) (l : List Int) (k : Nat) (h : k < l.length) : oneL r (l.drop k) = if r = l[k] then true else oneL r (l.drop (k + 1)) := by
  rw [List.drop_eq_getElem_cons h, oneL]
theorem oneL_end (r : Int) (l : List Int) (k : Nat) (h : l.length ≤ k) : oneL r (l.drop k) = false := by rw [List.drop_of_length_le h]; rfl
def inL (r : Int) : List Int → Bool
  | a :: b :: l => if a ≤ r ∧ r ≤ b then true else inL r l
  | _ => false
theorem inL_drop (r : Int) (l : List Int) (k : Nat) (h : k + 1 < l.length) : inL r (l.drop k) = if l[k] ≤ r ∧ r ≤ l[k + 1] then true else inL r (l.drop (k + 2)) := by
  rw [List.drop_eq_getElem_cons (by omega : k < l.length), List.drop_eq_getElem_cons h, inL]
theorem inL_end (r : Int) (l : List Int) (k : Nat) (h : l.length ≤ k + 1) : inL r (l.drop k) = false := by
  by_cases h1 : l.length ≤ k
  · rw [List.drop_of_length_le h1]; rfl
  · rw [List.drop_eq_getElem_cons (by omega : k < l.length), List.drop_of_length_le (by omega)]
    rfl
set_option maxHeartbeats 800000 in
theorem one_any (r : Int) (l : List Int) (g cap : Nat) (w : World) (hl : l.length ≤ 1000) (hc : IntsAt w g l) :
    Calls Tryz.prog 104 #[.int .i64 r, .slice (some ⟨g, 0, none⟩) l.length cap] w fun e w' => e = .returned (.bool (oneL r l)) ∧ w = w' := by
  have HC := Lib.hid hc
  clear hc
  go_enter Tryz.func104, Tryz.ntmps104
  go_wp2
  go_loop [9] (fun i => ∃ k : Nat, k ≤ l.length ∧ i = .int .i64 k ∧ oneL r l = oneL r (l.drop k)) (fun i => l.length - (intOf i).toNat)
  case atStart => exact ⟨0, Nat.zero_le _, rfl, rfl⟩
  case round =>
    obtain ⟨k, hk, rfl, hv⟩ := hrel
    by_cases hlt : k < l.length
    · have hcell := HC.out k hlt
      rw [oneL_drop r l k hlt] at hv
      by_cases he : r = l[k]
      · have b0 : (r == l[k]) = true := by rw [beq_iff_eq]; exact he
        rw [if_pos he] at hv
        have HV := Lib.hid hv
        clear hv he
        go_wp2_with fail
        go_ret
        exact ⟨by rw [HV.out]; rfl, rfl⟩
      · have b0 : (r == l[k]) = false := by rw [beq_eq_false_iff_ne]; exact he
        rw [if_neg he] at hv
        have HV := Lib.hid hv
        clear hv he
        go_wp2_with fail
        go_round
        case rel => exact ⟨k + 1, by omega, by go_num, HV.out⟩
        case measure => simp [intOf]; omega
    · rw [oneL_end r l k (by omega)] at hv
      have HV := Lib.hid hv
      clear hv
      go_wp2_with fail
      go_ret
      exact ⟨by rw [HV.out]; rfl, rfl⟩
set_option maxHeartbeats 800000 in
theorem in_any (r : Int) (l : List Int) (g cap : Nat) (w : World) (hl : l.length ≤ 1000) (hc : IntsAt w g l) :
    Calls Tryz.prog 103 #[.int .i64 r, .slice (some ⟨g, 0, none⟩) l.length cap] w fun e w' => e = .returned (.bool (inL r l)) ∧ w = w' := by
  have HC := Lib.hid hc
  clear hc
  go_enter Tryz.func103, Tryz.ntmps103
  go_wp2
  go_loop [5] (fun i => ∃ k : Nat, k ≤ l.length + 1 ∧ i = .int .i64 k ∧ inL r l = inL r (l.drop k)) (fun i => l.length + 1 - (intOf i).toNat)
  case atStart => exact ⟨0, Nat.zero_le _, rfl, rfl⟩
  case round =>
    obtain ⟨k, hk, rfl, hv⟩ := hrel
    by_cases hlt : k + 1 < l.length
    · have hcell := HC.out k (by omega)
      have hcell2 := HC.out (k + 1) hlt
      rw [inL_drop r l k hlt] at hv
      by_cases h1 : l[k] ≤ r
      · by_cases h2 : r ≤ l[k + 1]
        · rw [if_pos ⟨h1, h2⟩] at hv
          have HV := Lib.hid hv
          clear hv
          go_wp2_with fail
          go_ret
          exact ⟨by rw [HV.out]; rfl, rfl⟩
        · rw [if_neg (fun h => h2 h.2)] at hv
          have HV := Lib.hid hv
          clear hv
          go_wp2_with fail
          go_round
          case rel => exact ⟨k + 2, by omega, by go_num, HV.out⟩
          case measure => simp [intOf]; omega
      · rw [if_neg (fun h => h1 h.1)] at hv
        have HV := Lib.hid hv
        clear hv
        go_wp2_with fail
        go_round
        case rel => exact ⟨k + 2, by omega, by go_num, HV.out⟩
        case measure => simp [intOf]; omega
    · rw [inL_end r l k (by omega)] at hv
      have HV := Lib.hid hv
      clear hv
      go_wp2_with fail
      go_ret
      exact ⟨by rw [HV.out]; rfl, rfl⟩
abbrev endsT : List Int := [10, 13, 8232, 8233]
abbrev blankT : List Int := [9, 11, 12, 32, 160, 5760, 8239, 8287, 12288, 65279]
abbrev startA : List Int := [65, 90, 97, 122]
abbrev startT : List Int := [170, 181, 186, 902]
abbrev startR : List Int := [192, 214, 216, 246, 248, 705, 880, 883, 904, 1023, 1024, 1153, 1162, 1327, 1329, 1366, 1488, 1514, 1568, 1610, 2308, 2361, 3585, 3632, 7680, 8191, 12353, 12438, 12449, 12538, 13312, 19903, 19968, 40959, 44032, 55203, 131072, 173791]
abbrev partR : List Int := [48, 57, 768, 879, 1155, 1159, 1632, 1641, 2406, 2415, 8204, 8205, 65296, 65305]
def endsR (c : Int) : Bool := oneL c endsT
def blankR (c : Int) : Bool := oneL c blankT || inL c [8192, 8202]
def startC (c : Int) : Bool := if c < 128 then oneL c [36, 95] || inL c startA else oneL c startT || inL c startR
def partC (c : Int) : Bool := startC c || inL c partR
set_option maxRecDepth 20000 in
set_option maxHeartbeats 800000 in
theorem ends_any (c : Int) (w : World) : Calls Tryz.prog 131 #[.int .i64 c] w fun e w' => e = .returned (.bool (endsR c)) ∧ Below w.heap.size w w' := by
  go_enter Tryz.func131, Tryz.ntmps131
  go_wp2_with (go_at_call 104; refine (one_any c endsT _ _ _ (by decide) (intsAt_new w endsT 3)).mono ?_; rintro e w1 ⟨rfl, rfl⟩)
  go_ret
  exact ⟨rfl, (Below.refl _ _).alloc (Nat.le_refl _) _⟩
set_option maxRecDepth 20000 in
set_option maxHeartbeats 800000 in
theorem blank_any (c : Int) (w : World) : Calls Tryz.prog 132 #[.int .i64 c] w fun e w' => e = .returned (.bool (blankR c)) ∧ Below w.heap.size w w' := by
  cases h : oneL c blankT with
  | true =>
    have HV := Lib.hid (show blankR c = true by unfold blankR; rw [h]; rfl)
    have h1 := fun g cap W hi => one_any c blankT g cap W (by decide) hi
    rw [h] at h1
    have H1 := Lib.hid h1
    clear h h1
    go_enter Tryz.func132, Tryz.ntmps132
    go_wp2_with (go_at_call 104; refine (H1.out _ _ _ (intsAt_new w blankT 3)).mono ?_; rintro e w1 ⟨rfl, rfl⟩)
    go_ret
    exact ⟨by rw [HV.out]; rfl, (Below.refl _ _).alloc (Nat.le_refl _) _⟩
  | false =>
    have HV := Lib.hid (show blankR c = inL c [8192, 8202] by unfold blankR; rw [h]; rfl)
    have h1 := fun g cap W hi => one_any c blankT g cap W (by decide) hi
    rw [h] at h1
    have H1 := Lib.hid h1
    clear h h1
    go_enter Tryz.func132, Tryz.ntmps132
    go_wp2_with (first | (go_at_call 104; refine (H1.out _ _ _ (intsAt_new w blankT 3)).mono ?_; rintro e w1 ⟨rfl, rfl⟩) | (go_at_call 103; refine (in_any c [8192, 8202] _ _ _ (by decide) (intsAt_new' _ [8192, 8202] 3 _ (by first | rfl | simp))).mono ?_; rintro e w1 ⟨rfl, rfl⟩))
    go_ret
    exact ⟨by rw [HV.out]; rfl, ((Below.refl _ _).alloc (Nat.le_refl _) _).alloc (by simp) _⟩
end Go.Proofs.YteejjkfmmhegmaaGreatDoor
