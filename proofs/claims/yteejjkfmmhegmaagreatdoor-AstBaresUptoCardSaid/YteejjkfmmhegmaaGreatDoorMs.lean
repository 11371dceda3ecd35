/- Contracts of ast.measure, Size, Depth. Condition: at most 2^22 nodes. -/
import Derived.Test.YteejjkfmmhegmaaGreatDoorWk
namespace Go.Proofs.YteejjkfmmhegmaaGreatDoor
open Go.RowKit

/-- a number in a block of its own. -/
def IntBox (w : World) (p : Nat) (t : TypeId) (z : Int) : Prop := w.heap[p]? = some (.cells #[.int .i64 z] t (0, 0))
theorem IntBox.lt {w : World} {p : Nat} {t : TypeId} {z : Int} (h : IntBox w p t z) : p < w.heap.size := (Array.getElem?_eq_some_iff.1 h).1
theorem IntBox.facts {w : World} {p : Nat} {t : TypeId} {z : Int} (h : IntBox w p t z) : w.cell? ⟨p, 0, none⟩ = some (.int .i64 z) ∧ w.frozen? ⟨p, 0, none⟩ = false := ⟨cell_of_row w p 0 _ _ _ h, frozen_of_row w p 0 _ _ h⟩
theorem IntBox.far {w w' : World} {p : Nat} {t : TypeId} {z : Int} (h : IntBox w p t z) (hb : w'.heap[p]? = w.heap[p]?) : IntBox w' p t z := hb.trans h
theorem IntBox.set {w : World} {p : Nat} {t : TypeId} {z : Int} (h : IntBox w p t z) (y : Int) : IntBox (w.setCell ⟨p, 0, none⟩ (.int .i64 y)) p t y := heap_setCell_same w p 0 _ t (.int .i64 y) h
theorem run_box {w : World} {p : Nat} {z : Int} (h : IntBox w p 3 z) : (loadVar 3 ⟨p, 0, none⟩).run Tryz.prog w = .ok (.int .i64 z) w := by
  have := h.facts.1
  simp [loadVar, go_sem, this]
theorem run_box' {w : World} {p : Nat} {z : Int} (h : IntBox w p 32 z) : (loadVar 32 ⟨p, 0, none⟩).run Tryz.prog w = .ok (.int .i64 z) w := by
  have := h.facts.1
  simp [loadVar, go_sem, this]
theorem results_int3 {fn : Func} {p q r : Tmp} (h : fn.results = #[.cell p 3, .cell q 3, .cell r 32]) (tmps : Array Value) (w : World) (b c d : Nat) (x y z : Int) (hp : tmps.getD p undef = .pointer (some ⟨b, 0, none⟩)) (hq : tmps.getD q undef = .pointer (some ⟨c, 0, none⟩)) (hr : tmps.getD r undef = .pointer (some ⟨d, 0, none⟩))
    (hx : IntBox w b 3 x) (hy : IntBox w c 3 y) (hz : IntBox w d 32 z) : (results fn tmps).run Tryz.prog w = .ok (.tuple #[.int .i64 x, .int .i64 y, .int .i64 z]) w := by
  have hp' : tmps[p]?.getD undef = .pointer (some ⟨b, 0, none⟩) := by simpa using hp
  have hq' : tmps[q]?.getD undef = .pointer (some ⟨c, 0, none⟩) := by simpa using hq
  have hr' : tmps[r]?.getD undef = .pointer (some ⟨d, 0, none⟩) := by simpa using hr
  simp [results, h, hp', hq', hr', asAddr, run_box hx, run_box hy, run_box' hz]
theorem walk_any (n : Nat) (x : Option Addr) (w : World) :
    CallsIn Fence.wide n Tryz.prog 31 #[.pointer x] w fun e w' => e = .returned (.func (.func 37) #[] #[.pointer (some ⟨w.heap.size, 0, none⟩)]) ∧ w' = w.alloc (.cells #[.pointer x] 30) := by
  refine callsIn_of_wp Tryz.func31 rfl trivial ?_ rfl
  simp only [Tryz.ntmps31, List.size_toArray, List.length_cons, List.length_nil, Nat.reduceAdd, Nat.reduceSub, Array.replicate_succ, Array.replicate_zero, List.push_toArray, List.append_toArray, List.nil_append, List.cons_append]
  gi_wp2
  go_ret
  exact ⟨rfl, rfl⟩
/-- the most of a list of depths. -/
def mostD (l : List Nat) : Nat := l.foldl max 0
/-- between two rounds. -/
structure MsS (w : World) (p L B : Nat) (pre : List (Nat × Addr)) (W : World) : Prop where
  size : IntBox W p 3 pre.length
  depth : IntBox W (p + 1) 3 (mostD (pre.map Prod.fst))
  code : IntBox W (p + 2) 32 0
  bel : Below w.heap.size w W
  hp : w.heap.size ≤ p
/-- the world behind a round. -/
def msW (W : World) (p m : Nat) (y : Int) (d : Nat) : World := (W.setCell ⟨p, 0, none⟩ (.int .i64 ((m : Int) + 1))).setCell ⟨p + 1, 0, none⟩ (.int .i64 (max y (d : Int)))
theorem msW_block {W : World} {p m : Nat} {y : Int} {d k : Nat} (h1 : k ≠ p) (h2 : k ≠ p + 1) : (msW W p m y d).heap[k]? = W.heap[k]? := by
  unfold msW
  rw [Below.heap_setCell _ _ _ _ h2, Below.heap_setCell _ _ _ _ h1]
theorem MsS.upper {w W : World} {p L B B4 : Nat} {pre : List (Nat × Addr)} (_h : MsS w p L B pre W) (hB : p + 1 < B4) (d : Nat) : Upper B4 W (msW W p pre.length (mostD (pre.map Prod.fst) : Nat) d) :=
  ((Upper.refl _ W).setCell (p := ⟨p, 0, none⟩) (Nat.lt_of_succ_lt hB) _).setCell (p := ⟨p + 1, 0, none⟩) hB _
theorem MsS.high {w W w4 : World} {p L B : Nat} {pre : List (Nat × Addr)} (_h : MsS w p L B pre W) (hB : B ≤ p) (d : Nat) (hT : ∀ k, L ≤ k → k < B → W.heap[k]? = w4.heap[k]?) (k : Nat) (h1 : L ≤ k) (h2 : k < B) : (msW W p pre.length (mostD (pre.map Prod.fst) : Nat) d).heap[k]? = w4.heap[k]? :=
  (msW_block (by omega) (by omega)).trans (hT k h1 h2)
theorem MsS.next {w W : World} {p L B : Nat} {pre : List (Nat × Addr)} (h : MsS w p L B pre W) (x : Nat × Addr) : MsS w p L B (pre ++ [x]) (msW W p pre.length (mostD (pre.map Prod.fst) : Nat) x.1) := by
  have e1 : (((pre ++ [x]).length : Nat) : Int) = (pre.length : Int) + 1 := by rw [List.length_append]; rfl
  have e2 : ((mostD ((pre ++ [x]).map Prod.fst) : Nat) : Int) = max ((mostD (pre.map Prod.fst) : Nat) : Int) (x.1 : Int) := by
    have : mostD ((pre ++ [x]).map Prod.fst) = max (mostD (pre.map Prod.fst)) x.1 := by
      rw [List.map_append, mostD, List.foldl_append]
      rfl
    rw [this]
    omega
  have b0 := h.size.set ((pre.length : Int) + 1)
  have b1 : IntBox (W.setCell ⟨p, 0, none⟩ (.int .i64 ((pre.length : Int) + 1))) (p + 1) 3 (mostD (pre.map Prod.fst)) := h.depth.far (Below.heap_setCell _ ⟨p, 0, none⟩ _ (p + 1) (by show p + 1 ≠ p; omega))
  refine ⟨?_, ?_, h.code.far (msW_block (by omega) (by omega)), ?_, h.hp⟩
  · rw [e1]
    exact b0.far (Below.heap_setCell _ ⟨p + 1, 0, none⟩ _ p (by show p ≠ p + 1; omega))
  · rw [e2]
    exact b1.set _
  · have hp := h.hp
    exact (h.bel.setCell (p := ⟨p, 0, none⟩) hp _).setCell (p := ⟨p + 1, 0, none⟩) (Nat.le_succ_of_le hp) _
/-- the world behind the answer. -/
def msF (W : World) (p : Nat) (x y z : Int) : World := ((W.setCell ⟨p, 0, none⟩ (.int .i64 x)).setCell ⟨p + 1, 0, none⟩ (.int .i64 y)).setCell ⟨p + 1 + 1, 0, none⟩ (.int .i64 z)
theorem msF_block {W : World} {p : Nat} {x y z : Int} {k : Nat} (h1 : k ≠ p) (h2 : k ≠ p + 1) (h3 : k ≠ p + 1 + 1) : (msF W p x y z).heap[k]? = W.heap[k]? := by
  unfold msF
  rw [Below.heap_setCell _ _ _ _ h3, Below.heap_setCell _ _ _ _ h2, Below.heap_setCell _ _ _ _ h1]
theorem MsS.done {w W : World} {p L B D : Nat} {pre : List (Nat × Addr)} (h : MsS w p L B pre W) (hD : p + 4 ≤ D) (o : Obj) (x y z : Int) :
    IntBox ((msF W p x y z).putObj D o) p 3 x ∧ IntBox ((msF W p x y z).putObj D o) (p + 1) 3 y ∧ IntBox ((msF W p x y z).putObj D o) (p + 1 + 1) 32 z ∧ Below w.heap.size w ((msF W p x y z).putObj D o) := by
  have hp := h.hp
  have b0 := h.size.set x
  have c0 := h.depth.far (w' := W.setCell ⟨p, 0, none⟩ (.int .i64 x)) (Below.heap_setCell _ ⟨p, 0, none⟩ _ (p + 1) (by show p + 1 ≠ p; omega))
  have d0 := h.code.far (w' := W.setCell ⟨p, 0, none⟩ (.int .i64 x)) (Below.heap_setCell _ ⟨p, 0, none⟩ _ (p + 2) (by show p + 2 ≠ p; omega))
  have b1 := b0.far (w' := (W.setCell ⟨p, 0, none⟩ (.int .i64 x)).setCell ⟨p + 1, 0, none⟩ (.int .i64 y)) (Below.heap_setCell _ ⟨p + 1, 0, none⟩ _ p (by show p ≠ p + 1; omega))
  have c1 := c0.set y
  have d1 := d0.far (w' := (W.setCell ⟨p, 0, none⟩ (.int .i64 x)).setCell ⟨p + 1, 0, none⟩ (.int .i64 y)) (Below.heap_setCell _ ⟨p + 1, 0, none⟩ _ (p + 2) (by show p + 2 ≠ p + 1; omega))
  have b2 := b1.far (w' := msF W p x y z) (Below.heap_setCell _ ⟨p + 1 + 1, 0, none⟩ _ p (by show p ≠ p + 1 + 1; omega))
  have c2 := c1.far (w' := msF W p x y z) (Below.heap_setCell _ ⟨p + 1 + 1, 0, none⟩ _ (p + 1) (by show p + 1 ≠ p + 1 + 1; omega))
  have d2 : IntBox (msF W p x y z) (p + 1 + 1) 32 z := IntBox.set (p := p + 1 + 1) d1 z
  refine ⟨b2.far (World.putObj_heap_other (by omega)), c2.far (World.putObj_heap_other (by omega)), d2.far (World.putObj_heap_other (by omega)), ?_⟩
  have hb : Below w.heap.size w (msF W p x y z) := ((h.bel.setCell (p := ⟨p, 0, none⟩) hp _).setCell (p := ⟨p + 1, 0, none⟩) (Nat.le_succ_of_le hp) _).setCell (p := ⟨p + 1 + 1, 0, none⟩) (Nat.le_succ_of_le (Nat.le_succ_of_le hp)) _
  exact hb.trans (below_put _ _ _ _ (by omega))
/-- what measure answers. -/
def msV (n : Nd) : Value := if ndDeep n ≤ 8000 then .tuple #[.int .i64 (ndSize n), .int .i64 (ndDeep n), .int .i64 0] else .tuple #[.int .i64 0, .int .i64 0, .int .i64 801]
attribute [local go_sem] Oper.semAt_some
set_option maxRecDepth 100000 in
set_option maxHeartbeats 4000000 in
theorem measure_any (n : Nd) (g o L B : Nat) (w : World) (hn : NdC w L B n g o) (hB : B ≤ w.heap.size) (hsz : ndSize n ≤ 4194304) :
    Calls Tryz.prog 25 #[.pointer (some ⟨g, o, none⟩)] w fun e w' => e = .returned (msV n) ∧ Below w.heap.size w w' := by
  refine (callsIn_wide (n := 4)).1 ?_
  refine callsIn_of_wp_marks Tryz.func25 rfl trivial ?_ rfl
  simp only [Tryz.ntmps25, List.size_toArray, List.length_cons, List.length_nil, Nat.reduceAdd, Nat.reduceSub, Array.replicate_succ, Array.replicate_zero, List.push_toArray, List.append_toArray, List.nil_append, List.cons_append]
  have HN := Lib.hid hn
  clear hn
  gi_wp2_with (refine ⟨trivial, ?_⟩; gi_at_call 31; refine (walk_any _ _ _).mono ?_; rintro e w' ⟨rfl, rfl⟩)
  have hB0 : Below w.heap.size w ((((w.alloc (.cells #[.int .i64 0] 3)).alloc (.cells #[.int .i64 0] 3)).alloc (.cells #[.int .i64 0] 32)).alloc (.cells #[.pointer (some ⟨g, o, none⟩)] 30)) := (((Below.alloc (Below.refl _ w) (Nat.le_refl _) _).alloc (by simp) _).alloc (by simp <;> omega) _).alloc (by simp <;> omega) _
  have hsz4 : ((((w.alloc (.cells #[.int .i64 0] 3)).alloc (.cells #[.int .i64 0] 3)).alloc (.cells #[.int .i64 0] 32)).alloc (.cells #[.pointer (some ⟨g, o, none⟩)] 30)).heap.size = w.heap.size + 4 := by simp
  have b3 := heap_alloc_new (((w.alloc (.cells #[.int .i64 0] 3)).alloc (.cells #[.int .i64 0] 3)).alloc (.cells #[.int .i64 0] 32)) (.cells #[.pointer (some ⟨g, o, none⟩)] 30)
  have b2 : ((((w.alloc (.cells #[.int .i64 0] 3)).alloc (.cells #[.int .i64 0] 3)).alloc (.cells #[.int .i64 0] 32)).alloc (.cells #[.pointer (some ⟨g, o, none⟩)] 30)).heap[w.heap.size + 2]? = some (.cells #[.int .i64 0] 32 (0, 0)) := by
    rw [Below.heap_alloc _ _ _ (by simp)]
    have := heap_alloc_new ((w.alloc (.cells #[.int .i64 0] 3)).alloc (.cells #[.int .i64 0] 3)) (.cells #[.int .i64 0] 32)
    rw [World.size_alloc, World.size_alloc] at this
    exact this
  have b1 : ((((w.alloc (.cells #[.int .i64 0] 3)).alloc (.cells #[.int .i64 0] 3)).alloc (.cells #[.int .i64 0] 32)).alloc (.cells #[.pointer (some ⟨g, o, none⟩)] 30)).heap[w.heap.size + 1]? = some (.cells #[.int .i64 0] 3 (0, 0)) := by
    rw [Below.heap_alloc _ _ _ (by simp), Below.heap_alloc _ _ _ (by simp)]
    have := heap_alloc_new (w.alloc (.cells #[.int .i64 0] 3)) (.cells #[.int .i64 0] 3)
    rw [World.size_alloc] at this
    exact this
  have b0 : ((((w.alloc (.cells #[.int .i64 0] 3)).alloc (.cells #[.int .i64 0] 3)).alloc (.cells #[.int .i64 0] 32)).alloc (.cells #[.pointer (some ⟨g, o, none⟩)] 30)).heap[w.heap.size]? = some (.cells #[.int .i64 0] 3 (0, 0)) := by
    rw [Below.heap_alloc _ _ _ (by simp <;> omega), Below.heap_alloc _ _ _ (by simp <;> omega), Below.heap_alloc _ _ _ (by simp)]
    exact heap_alloc_new _ _
  rw [show (((w.alloc (.cells #[.int .i64 0] 3)).alloc (.cells #[.int .i64 0] 3)).alloc (.cells #[.int .i64 0] 32)).heap.size = w.heap.size + 3 by simp] at b3
  have hMS : MsS w w.heap.size L B [] ((((w.alloc (.cells #[.int .i64 0] 3)).alloc (.cells #[.int .i64 0] 3)).alloc (.cells #[.int .i64 0] 32)).alloc (.cells #[.pointer (some ⟨g, o, none⟩)] 30)) := ⟨b0, b1, b2, hB0, Nat.le_refl _⟩
  have hN4 := NdC_bel HN.out (hB0.mono hB)
  clear b0 b1 b2
  generalize ((((w.alloc (.cells #[.int .i64 0] 3)).alloc (.cells #[.int .i64 0] 3)).alloc (.cells #[.int .i64 0] 32)).alloc (.cells #[.pointer (some ⟨g, o, none⟩)] 30)) = w4 at *
  have hsq := walk_seq n 3 (by omega) g o L B (w.heap.size + 3) w4 b3 hN4 (by omega) hsz
  clear b3
  have HB := Lib.hid hB0
  have HSQ := Lib.hid hsq
  have HMS := Lib.hid hMS
  have HN4 := Lib.hid hN4
  clear hB0 hsq hMS hN4
  refine wpIn_rangeFunc_own' rfl (by omega) (gf := 37) (lb := #[.pointer (some ⟨w.heap.size + 3, 0, none⟩)]) rfl trivial (enters_of Tryz.func37 (by kernel_rfl) rfl) HSQ.out (fun _ => rfl)
    (fun pre A => MsS w w.heap.size L B pre A ∧ ∀ k, L ≤ k → k < B → A.heap[k]? = w4.heap[k]?)
    (fun s A C h hb => ⟨⟨h.1.size.far (hb.block _ (by omega)), h.1.depth.far (hb.block _ (by omega)), h.1.code.far (hb.block _ (by omega)), h.1.bel.trans (hb.mono (by omega)), h.1.hp⟩, fun k h1 h2 => (hb.block k (by omega)).trans (h.2 k h1 h2)⟩)
    (fun s A h => h.2) ⟨HMS.out, fun _ _ _ => rfl⟩
    (fun x => { tmps := #[.pointer (some ⟨g, o, none⟩), undef, .pointer (some ⟨w.heap.size, 0, none⟩), .pointer (some ⟨w.heap.size + 1, 0, none⟩), .pointer (some ⟨w.heap.size + 1 + 1, 0, none⟩), .int .i64 x.1, .pointer (some ⟨g, o, none⟩), .func (.func 37) #[] #[.pointer (some ⟨w.heap.size + 1 + 1 + 1, 0, none⟩)], .int .i64 x.1, .pointer (some x.2), undef, undef, undef, undef, undef, undef, undef, undef, undef, undef, undef], defers := [] }) ?assign ?body ?done
  case assign =>
    intro l x W K hK
    gi_wp2
    exact hK
  case body =>
    rintro l pre x W ⟨hms, hT⟩ hlt hsW
    obtain ⟨d, a⟩ := x
    obtain ⟨s1, s2⟩ := hms.size.facts
    obtain ⟨d1, d2⟩ := hms.depth.facts
    have hp1 : w.heap.size < W.heap.size := hms.size.lt
    have hp2 : w.heap.size + 1 < W.heap.size := hms.depth.lt
    have HPL := Lib.hid (show pre.length < 4194304 by omega)
    have HSZ := Lib.hid hsz
    clear hsz hlt
    have HMS2 := Lib.hid hms
    have HT := Lib.hid hT
    clear hms hT
    have hwr : wrap64 ((pre.length : Int) + 1) = (pre.length : Int) + 1 := IntWalk.wrap64_in _ (by have := HPL.out; omega)
    have htt : decide ((4194304 : Int) < (pre.length : Int) + 1) = false := by have := HPL.out; rw [decide_eq_false_iff_not]; omega
    gi_wp2_with fail
    exact ⟨HMS2.out.upper (by omega) d, HMS2.out.next (d, a), HMS2.out.high (by omega) d HT.out⟩
  case done =>
    rintro D W xs hD hfin ⟨hms, hT⟩ hK
    obtain ⟨s1, s2⟩ := hms.size.facts
    obtain ⟨d1, d2⟩ := hms.depth.facts
    obtain ⟨e1, e2⟩ := hms.code.facts
    have hp1 : w.heap.size < W.heap.size := hms.size.lt
    have hp2 : w.heap.size + 1 < W.heap.size := hms.depth.lt
    have hp3 : w.heap.size + 1 + 1 < W.heap.size := hms.code.lt
    have hDl : D < W.heap.size := (Array.getElem?_eq_some_iff.1 hK).1
    have hlen : xs.length = ndSize n := by rw [← preD_len n 1, ← hfin, List.length_map]
    have hmost : mostD (xs.map Prod.fst) = ndDeep n := by rw [hfin, mostD, preD_max]; omega
    rw [hlen] at s1
    rw [hmost] at d1
    have HMS2 := Lib.hid hms
    have HK := Lib.hid hK
    have HSZ := Lib.hid hsz
    clear hms hT hfin hlen hmost hK hsz
    by_cases hd : ndDeep n ≤ 8000
    · have ht : decide ((8000 : Int) < ((ndDeep n : Nat) : Int)) = false := by rw [decide_eq_false_iff_not]; omega
      have HV := Lib.hid (show msV n = .tuple #[.int .i64 (ndSize n), .int .i64 (ndDeep n), .int .i64 0] by rw [msV, if_pos hd])
      clear hd
      gi_upto_region 9 with fail
      gi_region
      gi_wp2_with fail
      have hms3 : MsS w w.heap.size L B xs W.drew := ⟨HMS2.out.size, HMS2.out.depth, HMS2.out.code, Below.drew HMS2.out.bel, HMS2.out.hp⟩
      have hK3 : (msF W.drew w.heap.size (ndSize n) (ndDeep n) 0).heap[D]? = some (.deferred (some [])) := (msF_block (by omega) (by omega) (by omega)).trans HK.out
      change bodyPostM _ _ _ _ _ _ _ (msF W.drew w.heap.size (ndSize n) (ndDeep n) 0)
      refine ⟨by simp, .inl ⟨_, _, rfl, run_takeDeferred hK3, ?_⟩⟩
      obtain ⟨q0, q1, q2, q3⟩ := hms3.done (D := D) (by omega) (.deferred none) (ndSize n) (ndDeep n) 0
      refine ⟨_, results_int3 rfl _ _ w.heap.size (w.heap.size + 1) (w.heap.size + 1 + 1) _ _ _ rfl rfl rfl q0 q1 q2, ?_, q3⟩
      rw [HV.out]
    · have ht : decide ((8000 : Int) < ((ndDeep n : Nat) : Int)) = true := by rw [decide_eq_true_eq]; omega
      have HV := Lib.hid (show msV n = .tuple #[.int .i64 0, .int .i64 0, .int .i64 801] by rw [msV, if_neg hd])
      clear hd
      gi_wp2_with fail
      have hK3 : (msF W w.heap.size 0 0 801).heap[D]? = some (.deferred (some [])) := (msF_block (by omega) (by omega) (by omega)).trans HK.out
      refine ⟨by simp, .inl ⟨_, _, rfl, run_takeDeferred hK3, ?_⟩⟩
      obtain ⟨q0, q1, q2, q3⟩ := HMS2.out.done (D := D) (by omega) (.deferred none) 0 0 801
      refine ⟨_, results_int3 rfl _ _ w.heap.size (w.heap.size + 1) (w.heap.size + 1 + 1) _ _ _ rfl rfl rfl q0 q1 q2, ?_, q3⟩
      rw [HV.out]
end Go.Proofs.YteejjkfmmhegmaaGreatDoor
