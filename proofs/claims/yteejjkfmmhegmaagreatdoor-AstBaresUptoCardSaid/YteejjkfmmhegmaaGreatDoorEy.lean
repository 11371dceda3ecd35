/- Contracts of ast.own at a Paren, of expression at some kinds, of one and Check. Condition: at most 2^22 nodes. -/
import Derived.Test.YteejjkfmmhegmaaGreatDoorEx
namespace Go.Proofs.YteejjkfmmhegmaaGreatDoor
open Go.RowKit

set_option maxRecDepth 100000 in
set_option maxHeartbeats 2000000 in
theorem expr_1 (n : Nd) (g o L B : Nat) (w : World) (v : Bool) (hn : NdC w L B n g o) (hB : B ≤ w.heap.size) (hk : n.kind = 1)
    (how : Calls Tryz.prog 36 #[.pointer (some ⟨g, o, none⟩)] w fun e w' => e = .returned (.bool v) ∧ Below w.heap.size w w') :
    Calls Tryz.prog 30 #[.pointer (some ⟨g, o, none⟩)] w fun e w' => e = .returned (.bool v) ∧ Below w.heap.size w w' := by
  obtain ⟨b, cap, hg, c0, c1, c2, c3, c4, hc, hr⟩ := hn.facts hB
  have HS := Lib.hid (super_no n g o L B w hn hB (by rw [hk]; decide))
  rw [hk] at c0
  have HO := Lib.hid how
  clear hn hr how hk hc c1 c2 c3 c4
  go_enter Tryz.func30, Tryz.ntmps30
  go_wp2_with (first | (go_at_call 35; refine HS.out.mono ?_; rintro e w2 ⟨rfl, rfl⟩) | (go_at_call 36; refine HO.out.mono ?_; rintro e w2 ⟨rfl, hb2⟩))
  go_ret
  exact ⟨rfl, hb2⟩
set_option maxRecDepth 100000 in
set_option maxHeartbeats 2000000 in
theorem expr_3 (n : Nd) (g o L B : Nat) (w : World) (v : Bool) (hn : NdC w L B n g o) (hB : B ≤ w.heap.size) (hk : n.kind = 3)
    (how : Calls Tryz.prog 36 #[.pointer (some ⟨g, o, none⟩)] w fun e w' => e = .returned (.bool v) ∧ Below w.heap.size w w') :
    Calls Tryz.prog 30 #[.pointer (some ⟨g, o, none⟩)] w fun e w' => e = .returned (.bool v) ∧ Below w.heap.size w w' := by
  obtain ⟨b, cap, hg, c0, c1, c2, c3, c4, hc, hr⟩ := hn.facts hB
  have HS := Lib.hid (super_no n g o L B w hn hB (by rw [hk]; decide))
  rw [hk] at c0
  have HO := Lib.hid how
  clear hn hr how hk hc c1 c2 c3 c4
  go_enter Tryz.func30, Tryz.ntmps30
  go_wp2_with (first | (go_at_call 35; refine HS.out.mono ?_; rintro e w2 ⟨rfl, rfl⟩) | (go_at_call 36; refine HO.out.mono ?_; rintro e w2 ⟨rfl, hb2⟩))
  go_ret
  exact ⟨rfl, hb2⟩
set_option maxRecDepth 100000 in
set_option maxHeartbeats 2000000 in
theorem expr_4 (n : Nd) (g o L B : Nat) (w : World) (v : Bool) (hn : NdC w L B n g o) (hB : B ≤ w.heap.size) (hk : n.kind = 4)
    (how : Calls Tryz.prog 36 #[.pointer (some ⟨g, o, none⟩)] w fun e w' => e = .returned (.bool v) ∧ Below w.heap.size w w') :
    Calls Tryz.prog 30 #[.pointer (some ⟨g, o, none⟩)] w fun e w' => e = .returned (.bool v) ∧ Below w.heap.size w w' := by
  obtain ⟨b, cap, hg, c0, c1, c2, c3, c4, hc, hr⟩ := hn.facts hB
  have HS := Lib.hid (super_no n g o L B w hn hB (by rw [hk]; decide))
  rw [hk] at c0
  have HO := Lib.hid how
  clear hn hr how hk hc c1 c2 c3 c4
  go_enter Tryz.func30, Tryz.ntmps30
  go_wp2_with (first | (go_at_call 35; refine HS.out.mono ?_; rintro e w2 ⟨rfl, rfl⟩) | (go_at_call 36; refine HO.out.mono ?_; rintro e w2 ⟨rfl, hb2⟩))
  go_ret
  exact ⟨rfl, hb2⟩
set_option maxRecDepth 100000 in
set_option maxHeartbeats 2000000 in
theorem expr_5 (n : Nd) (g o L B : Nat) (w : World) (v : Bool) (hn : NdC w L B n g o) (hB : B ≤ w.heap.size) (hk : n.kind = 5)
    (how : Calls Tryz.prog 36 #[.pointer (some ⟨g, o, none⟩)] w fun e w' => e = .returned (.bool v) ∧ Below w.heap.size w w') :
    Calls Tryz.prog 30 #[.pointer (some ⟨g, o, none⟩)] w fun e w' => e = .returned (.bool v) ∧ Below w.heap.size w w' := by
  obtain ⟨b, cap, hg, c0, c1, c2, c3, c4, hc, hr⟩ := hn.facts hB
  have HS := Lib.hid (super_no n g o L B w hn hB (by rw [hk]; decide))
  rw [hk] at c0
  have HO := Lib.hid how
  clear hn hr how hk hc c1 c2 c3 c4
  go_enter Tryz.func30, Tryz.ntmps30
  go_wp2_with (first | (go_at_call 35; refine HS.out.mono ?_; rintro e w2 ⟨rfl, rfl⟩) | (go_at_call 36; refine HO.out.mono ?_; rintro e w2 ⟨rfl, hb2⟩))
  go_ret
  exact ⟨rfl, hb2⟩
set_option maxRecDepth 100000 in
set_option maxHeartbeats 2000000 in
theorem expr_7 (n : Nd) (g o L B : Nat) (w : World) (v : Bool) (hn : NdC w L B n g o) (hB : B ≤ w.heap.size) (hk : n.kind = 7)
    (how : Calls Tryz.prog 36 #[.pointer (some ⟨g, o, none⟩)] w fun e w' => e = .returned (.bool v) ∧ Below w.heap.size w w') :
    Calls Tryz.prog 30 #[.pointer (some ⟨g, o, none⟩)] w fun e w' => e = .returned (.bool v) ∧ Below w.heap.size w w' := by
  obtain ⟨b, cap, hg, c0, c1, c2, c3, c4, hc, hr⟩ := hn.facts hB
  have HS := Lib.hid (super_no n g o L B w hn hB (by rw [hk]; decide))
  rw [hk] at c0
  have HO := Lib.hid how
  clear hn hr how hk hc c1 c2 c3 c4
  go_enter Tryz.func30, Tryz.ntmps30
  go_wp2_with (first | (go_at_call 35; refine HS.out.mono ?_; rintro e w2 ⟨rfl, rfl⟩) | (go_at_call 36; refine HO.out.mono ?_; rintro e w2 ⟨rfl, hb2⟩))
  go_ret
  exact ⟨rfl, hb2⟩
set_option maxRecDepth 100000 in
set_option maxHeartbeats 2000000 in
theorem expr_26 (n : Nd) (g o L B : Nat) (w : World) (v : Bool) (hn : NdC w L B n g o) (hB : B ≤ w.heap.size) (hk : n.kind = 26)
    (how : Calls Tryz.prog 36 #[.pointer (some ⟨g, o, none⟩)] w fun e w' => e = .returned (.bool v) ∧ Below w.heap.size w w') :
    Calls Tryz.prog 30 #[.pointer (some ⟨g, o, none⟩)] w fun e w' => e = .returned (.bool v) ∧ Below w.heap.size w w' := by
  obtain ⟨b, cap, hg, c0, c1, c2, c3, c4, hc, hr⟩ := hn.facts hB
  have HS := Lib.hid (super_no n g o L B w hn hB (by rw [hk]; decide))
  rw [hk] at c0
  have HO := Lib.hid how
  clear hn hr how hk hc c1 c2 c3 c4
  go_enter Tryz.func30, Tryz.ntmps30
  go_wp2_with (first | (go_at_call 35; refine HS.out.mono ?_; rintro e w2 ⟨rfl, rfl⟩) | (go_at_call 36; refine HO.out.mono ?_; rintro e w2 ⟨rfl, hb2⟩))
  go_ret
  exact ⟨rfl, hb2⟩
set_option maxRecDepth 100000 in
set_option maxHeartbeats 4000000 in
theorem own_paren (n : Nd) (g o L B : Nat) (w : World) (v : Bool) (hn : NdC w L B n g o) (hB : B ≤ w.heap.size) (hk : n.kind = 26) (ht : n.text = ⟨#[]⟩) (x : Nd) (hks : n.kids = [x])
    (hex : ∀ (W : World) (g2 o2 : Nat), Below w.heap.size w W → NdC W L B x g2 o2 → Calls Tryz.prog 30 #[.pointer (some ⟨g2, o2, none⟩)] W fun e w' => e = .returned (.bool v) ∧ Below W.heap.size W w') :
    Calls Tryz.prog 36 #[.pointer (some ⟨g, o, none⟩)] w fun e w' => e = .returned (.bool v) ∧ Below w.heap.size w w' := by
  obtain ⟨b, cap, hg, c0, c1, c2, c3, c4, hc, hr⟩ := hn.facts hB
  have HK := Lib.hid hk
  have HT := Lib.hid ht
  have HN := Lib.hid hn
  have HEX := Lib.hid hex
  have H1 := Lib.hid (show n.kids.length = 1 by rw [hks]; rfl)
  have HX := Lib.hid (show ∀ h : 0 < n.kids.length, n.kids[0] = x from fun h => by simp [hks])
  clear hn hr hk ht hc hex hks
  go_enter Tryz.func36, Tryz.ntmps36
  go_upto_region 3 with (go_at_call 34; refine (kind_any _ _ _ _).mono ?_; rintro e w2 ⟨rfl, rfl⟩)
  have hb4 : Below w.heap.size w ((((w.alloc (.cells #[.int .i64 58] 3)).alloc (.cells #[.slice (some ⟨w.heap.size, 0, none⟩) 1 1] 39)).alloc (.cells #[.int .i64 1] 3)).alloc (.cells #[.slice (some ⟨w.heap.size + 1 + 1, 0, none⟩) 1 1] 39)) := (((alloc_bel w _).alloc (by simp) _).alloc (by simp <;> omega) _).alloc (by simp <;> omega) _
  generalize ((((w.alloc (.cells #[.int .i64 58] 3)).alloc (.cells #[.slice (some ⟨w.heap.size, 0, none⟩) 1 1] 39)).alloc (.cells #[.int .i64 1] 3)).alloc (.cells #[.slice (some ⟨w.heap.size + 1 + 1, 0, none⟩) 1 1] 39)) = w4 at *
  have HB4 := Lib.hid hb4
  have hn4 := NdC_bel HN.out (hb4.mono hB)
  have hB4 := Nat.le_trans hB hb4.size
  clear c0 c1 c2 c3 c4 hb4 hg
  obtain ⟨b2, cap2, hg, c0, c1, c2, c3, c4, _, _⟩ := hn4.facts hB4
  rw [HK.out] at c0
  rw [HT.out] at c1
  clear hn4
  go_wp2_with fail
  have hb5 : Below w.heap.size w (w4.alloc (.cells #[.func (.func 30) #[] #[]] 51)) := HB4.out.alloc HB4.out.size _
  have hcl := heap_alloc_new w4 (.cells #[.func (.func 30) #[] #[]] 51)
  have HKO := Lib.hid (kids_one n g o L B w4.heap.size (w4.alloc (.cells #[.func (.func 30) #[] #[]] 51)) (NdC_bel HN.out (hb5.mono hB)) (Nat.le_trans hB hb5.size) H1.out (cell_of_row _ w4.heap.size 0 _ _ _ hcl) (by rw [World.size_alloc]; omega) v (fun g2 o2 h => HEX.out _ g2 o2 hb5 (by rw [HX.out] at h; exact h)))
  refine HKO.out.mono ?_
  rintro e w6 ⟨rfl, hb6⟩
  have HB6 := Lib.hid (bel_next hb5 hb6)
  clear hb5 hb6 hcl c0 c1 c2 c3 c4 hg
  go_wp2_with fail
  go_ret
  exact ⟨rfl, HB6.out⟩
/-- one: no Program. -/
theorem one_no (n : Nd) (g o L B : Nat) (w : World) (hn : NdC w L B n g o) (hB : B ≤ w.heap.size) (hk : n.kind ≠ 86) :
    Calls Tryz.prog 29 #[.pointer (some ⟨g, o, none⟩), .string ⟨#[80, 114, 111, 103, 114, 97, 109]⟩] w fun e w' => e = .returned (.bool false) ∧ Below w.heap.size w w' := by
  have hkind : ∀ (r q : Nat) (W : World), Below w.heap.size w W → W.cell? ⟨q, 0, none⟩ = some (.slice (some ⟨r, 0, none⟩) 1 1) → W.cell? ⟨r, 0, none⟩ = some (.int .i64 86) → q < W.heap.size → r < W.heap.size →
      Calls Tryz.prog 38 #[.pointer (some ⟨g, o, none⟩), .pointer (some ⟨q, 0, none⟩)] W fun e w' => e = .returned (.bool false) ∧ Below W.heap.size W w' := by
    intro r q W hb hq hr hql hrl
    obtain ⟨b, cap, hg, c0, c1, c2, c3, c4, hc, hr2⟩ := (NdC_bel hn (hb.mono hB)).facts (Nat.le_trans hB hb.size)
    have HC := Lib.hid (fun W2 (h1 : r < W2.heap.size) (h2 : W2.cell? ⟨r, 0, none⟩ = some (.int .i64 86)) => contains_no r 86 n.kind W2 h1 h2 hk)
    clear hn hr2 c1 c2 c3 c4 hk hc hb
    go_enter Tryz.func38, Tryz.ntmps38
    go_wp2_with fail
    go_quiet ((go_at_call 39; exact Calls.quiet_of_same ((HC.out (W.drewN _) hrl hr).mono (fun _ _ h => ⟨h.1, h.2.symm⟩))))
    go_wp2_with fail
    go_ret
    exact ⟨rfl, bel_drewN (Below.refl _ _) _⟩
  have HKD := Lib.hid hkind
  clear hkind hn hk
  go_enter Tryz.func29, Tryz.ntmps29
  go_wp2_with (go_at_call 34; refine (kind_any _ _ _ _).mono ?_; rintro e w2 ⟨rfl, rfl⟩)
  have hb2 : Below w.heap.size w ((w.alloc (.cells #[.int .i64 86] 3)).alloc (.cells #[.slice (some ⟨w.heap.size, 0, none⟩) 1 1] 39)) := (alloc_bel w _).alloc (by simp) _
  have e1 := heap_alloc_new (w.alloc (.cells #[.int .i64 86] 3)) (.cells #[.slice (some ⟨w.heap.size, 0, none⟩) 1 1] 39)
  rw [World.size_alloc] at e1
  have e0 : ((w.alloc (.cells #[.int .i64 86] 3)).alloc (.cells #[.slice (some ⟨w.heap.size, 0, none⟩) 1 1] 39)).heap[w.heap.size]? = some (.cells #[.int .i64 86] 3 (0, 0)) := (Below.heap_alloc _ _ _ (by simp)).trans (heap_alloc_new _ _)
  have HKD2 := Lib.hid (HKD.out w.heap.size (w.heap.size + 1) _ hb2 (cell_of_row _ _ 0 _ _ _ e1) (cell_of_row _ _ 0 _ _ _ e0) (by simp) (by simp <;> omega))
  refine HKD2.out.mono ?_
  rintro e w3 ⟨rfl, hb3⟩
  have HB3 := Lib.hid (bel_next hb2 hb3)
  clear hb2 hb3 e0 e1
  go_wp2_with fail
  go_ret
  exact ⟨rfl, HB3.out⟩
/-- what Check answers. -/
def chkV (n : Nd) (r : Bool) : Int := if ndDeep n ≤ 8000 then (if r then 0 else 800) else 801
/-- Check of what is no Program. -/
theorem Check_any (n : Nd) (v : Value) (w : World) (L B : Nat) (r : Bool) (hv : NdV w L B n v) (hB : B ≤ w.heap.size) (hsz : ndSize n ≤ 4194304) (hk : n.kind ≠ 86)
    (hex : ndDeep n ≤ 8000 → ∀ (W : World) (g o L2 B2 : Nat), NdC W L2 B2 n g o → B2 ≤ W.heap.size → Below w.heap.size w W → Calls Tryz.prog 30 #[.pointer (some ⟨g, o, none⟩)] W fun e w' => e = .returned (.bool r) ∧ Below W.heap.size W w') :
    Calls Tryz.prog 19 #[v] w fun e w' => e = .returned (.int .i64 (chkV n r)) ∧ Below w.heap.size w w' := by
  obtain ⟨b, cap, rfl, hcap, hrow⟩ := hv
  unfold ndCells at *
  have hba := alloc_bel w (.cells #[.int .i64 n.kind, .string n.text, .slice b n.kids.length cap, .int .i64 n.from', .int .i64 n.till] 24)
  have hbx := box_new w n b cap
  have HR := Lib.hid hrow
  have HEX := Lib.hid hex
  have HK := Lib.hid hk
  clear hrow hex hk
  go_enter Tryz.func19, Tryz.ntmps19
  go_upto_region 1 with fail
  generalize World.alloc w _ = w1 at *
  have HB := Lib.hid hba
  have HX := Lib.hid hbx
  have HN := Lib.hid (measure_box n w w1 L B _ b cap hba hB hbx hcap HR.out hsz)
  clear hba hbx hsz
  go_wp2_with fail
  refine HN.out.mono ?_
  rintro e w2 ⟨rfl, hb2⟩
  have HB2 := Lib.hid (bel_next HB.out hb2)
  have HX2 := Lib.hid (HX.out.bel hb2 HX.out.lt)
  have HN2 := Lib.hid (HX2.out.ndc hcap (RowP_bel HR.out (HB2.out.mono hB)) (Nat.le_trans hB HB2.out.size))
  clear hb2 HX HN
  by_cases hd : ndDeep n ≤ 8000
  · have hdd : (msE n != 0) = false := by rw [msE, if_pos hd]; rfl
    have HO := Lib.hid (one_no n w.heap.size 0 0 w2.heap.size w2 HN2.out (Nat.le_refl _) HK.out)
    have HA := Lib.hid (show chkV n r = (if r then 0 else 800) by rw [chkV, if_pos hd])
    have HD := Lib.hid hd
    clear hd
    go_wp2_with fail
    refine HO.out.mono ?_
    rintro e w3 ⟨rfl, hb3⟩
    have HB3 := Lib.hid (bel_next HB2.out hb3)
    have HE := Lib.hid (HEX.out HD.out w3 w.heap.size 0 0 w2.heap.size (NdC_bel HN2.out hb3) hb3.size HB3.out)
    clear hb3
    cases r with
    | true =>
      go_wp2_with fail
      refine HE.out.mono ?_
      rintro e w4 ⟨rfl, hb4⟩
      have HB4 := Lib.hid (bel_next HB3.out hb4)
      clear hb4
      go_wp2_with fail
      go_ret
      exact ⟨by rw [HA.out]; rfl, HB4.out⟩
    | false =>
      go_wp2_with fail
      refine HE.out.mono ?_
      rintro e w4 ⟨rfl, hb4⟩
      have HB4 := Lib.hid (bel_next HB3.out hb4)
      clear hb4
      go_wp2_with fail
      go_ret
      exact ⟨by rw [HA.out]; rfl, HB4.out⟩
  · have hdd : (msE n != 0) = true := by rw [msE, if_neg hd]; rfl
    have HD := Lib.hid (show msE n = 801 by rw [msE, if_neg hd])
    have HA := Lib.hid (show chkV n r = 801 by rw [chkV, if_neg hd])
    clear hd
    go_wp2_with fail
    go_ret
    exact ⟨by rw [HD.out, HA.out]; rfl, HB2.out⟩
end Go.Proofs.YteejjkfmmhegmaaGreatDoor
