/- Contracts of str.parts and str.Check. Conditions: the library's tables lie as they are laid; at most 2^24 bytes. -/
import Derived.Test.YteejjkfmmhegmaaGreatDoorLPB
import Derived.Maps.AppendAt
namespace Go.Proofs.YteejjkfmmhegmaaGreatDoor
open Go.RowKit

/-- a part in memory. -/
def PtAt (w : World) (g : Nat) (a c : Int) (f : Bool) (v : Int) : Prop := w.heap[g]? = some (.cells #[.int .i64 a, .int .i64 c, .bool f, .int .i64 v] 99 (0, 0))
theorem PtAt.lt {w : World} {g : Nat} {a c v : Int} {f : Bool} (h : PtAt w g a c f v) : g < w.heap.size := (Array.getElem?_eq_some_iff.1 h).1
theorem PtAt.bel {w w' : World} {g : Nat} {a c v : Int} {f : Bool} (h : PtAt w g a c f v) (hb : Below w.heap.size w w') : PtAt w' g a c f v := (hb.block g h.lt).trans h
theorem PtAt.cell {w : World} {g : Nat} {a c v : Int} {f : Bool} (h : PtAt w g a c f v) (j : Nat) : w.cell? ⟨g, j, none⟩ = (#[.int .i64 a, .int .i64 c, .bool f, .int .i64 v] : Array Value)[j]? := by
  unfold PtAt at h
  simp [World.cell?, h]
theorem PtAt.facts {w : World} {g : Nat} {a c v : Int} {f : Bool} (h : PtAt w g a c f v) :
    w.cell? ⟨g, 0, none⟩ = some (.int .i64 a) ∧ w.cell? ⟨g, 1, none⟩ = some (.int .i64 c) ∧ w.cell? ⟨g, 2, none⟩ = some (.bool f) ∧ w.cell? ⟨g, 3, none⟩ = some (.int .i64 v) ∧
    w.frozen? ⟨g, 0, none⟩ = false ∧ w.frozen? ⟨g, 1, none⟩ = false ∧ w.frozen? ⟨g, 2, none⟩ = false ∧ w.frozen? ⟨g, 3, none⟩ = false := by
  have hf := fun k => frozen_of_row w g k #[.int .i64 a, .int .i64 c, .bool f, .int .i64 v] _ h
  exact ⟨h.cell 0, h.cell 1, h.cell 2, h.cell 3, hf 0, hf 1, hf 2, hf 3⟩
theorem PtAt.set1 {w : World} {g : Nat} {a c v : Int} {f : Bool} (h : PtAt w g a c f v) (u : Int) : PtAt (w.setCell ⟨g, 1, none⟩ (.int .i64 u)) g a u f v := heap_setCell_same w g 1 _ _ (.int .i64 u) h
theorem PtAt.set2 {w : World} {g : Nat} {a c v : Int} {f : Bool} (h : PtAt w g a c f v) (u : Bool) : PtAt (w.setCell ⟨g, 2, none⟩ (.bool u)) g a c u v := heap_setCell_same w g 2 _ _ (.bool u) h
theorem PtAt.set3 {w : World} {g : Nat} {a c v : Int} {f : Bool} (h : PtAt w g a c f v) (u : Int) : PtAt (w.setCell ⟨g, 3, none⟩ (.int .i64 u)) g a c f u := heap_setCell_same w g 3 _ _ (.int .i64 u) h
/-- parts read so far. -/
structure Pst (w0 : World) (v : Value) (n : Nat) (xs : List Value) (w : World) : Prop where
  own : w.ownsRow w0.heap.size 99 4 v n xs
  bel : Below w0.heap.size w0 w
theorem own_below {w w' : World} {base size n : Nat} {e : TypeId} {v : Value} {xs : List Value} (h : w.ownsRow base e size v n xs) (hb : Below w.heap.size w w') : w'.ownsRow base e size v n xs := by
  refine ⟨h.1, ?_⟩
  rcases h.2 with h2 | ⟨g, cap, cur, hv, hg, hh, r⟩
  · exact .inl h2
  · refine .inr ⟨g, cap, cur, hv, hg, ?_, r⟩
    rw [hb.block g (Array.getElem?_eq_some_iff.1 hh).1]
    exact hh
theorem Pst.next {w0 w w' : World} {v : Value} {n : Nat} {xs : List Value} (h : Pst w0 v n xs w) (hb : Below w.heap.size w w') : Pst w0 v n xs w' := ⟨own_below h.own hb, h.bel.trans (hb.mono h.bel.size)⟩
theorem own_setCell {w : World} {base size n g : Nat} {e : TypeId} {v u : Value} {xs : List Value} (k : Nat) (h : w.ownsRow base e size v n xs) (hg : v.ownBlock ≠ some g) : (w.setCell ⟨g, k, none⟩ u).ownsRow base e size v n xs := by
  refine ⟨h.1, ?_⟩
  rcases h.2 with h2 | ⟨g', cap, cur, hv, hg', hh, r⟩
  · exact .inl h2
  · refine .inr ⟨g', cap, cur, hv, hg', ?_, r⟩
    rw [Below.heap_setCell _ _ _ _ (show g' ≠ g by
      rintro rfl
      exact hg (by rw [hv]; rfl))]
    exact hh
theorem Pst.setCell {w0 w : World} {v u : Value} {n g : Nat} {xs : List Value} (h : Pst w0 v n xs w) (k : Nat) (hg : w0.heap.size ≤ g) (hne : v.ownBlock ≠ some g) : Pst w0 v n xs (w.setCell ⟨g, k, none⟩ u) := ⟨own_setCell k h.own hne, h.bel.setCell (p := ⟨g, k, none⟩) hg u⟩
theorem Pst.own_lt {w0 w : World} {v : Value} {n : Nat} {xs : List Value} (h : Pst w0 v n xs w) : v.ownBlock ≠ some w.heap.size := by
  rcases h.own.2 with ⟨e, _⟩ | ⟨g, cap, cur, e, _, hh, _⟩
  · rw [e]; intro hc; cases hc
  · rw [e]
    intro hc
    have h1 := (Array.getElem?_eq_some_iff.1 hh).1
    have h2 : g = w.heap.size := by injection hc
    omega
theorem Pst.push {w0 w w1 : World} {v v' : Value} {n : Nat} {xs ys : List Value} {o : Obj} (h : Pst w0 v n xs w) (hg : (w.alloc o).grownBy w1 v.ownBlock) (ho : w1.ownsRow w0.heap.size 99 4 v' (n + 1) (xs ++ ys)) : Pst w0 v' (n + 1) (xs ++ ys) w1 := by
  refine ⟨ho, ?_⟩
  refine (h.bel.alloc h.bel.size o).grown hg ?_ ?_
  · have := h.bel.size; rw [World.size_alloc]; omega
  · intro k hk
    rcases h.own.2 with ⟨e, _⟩ | ⟨g, cap, cur, e, h2, _⟩
    · rw [e] at hk; cases hk
    · rw [e] at hk; cases hk; exact h2
def ptCells (a c : Int) (f : Bool) (v : Int) : List Value := [.int .i64 a, .int .i64 c, .bool f, .int .i64 v]
theorem pt_new (w : World) (a c : Int) (f : Bool) (v : Int) : ∀ j u, (ptCells a c f v)[j]? = some u → (w.alloc (.cells #[.int .i64 a, .int .i64 c, .bool f, .int .i64 v] 99)).cell? ((⟨w.heap.size, 0, none⟩ : Addr).add j) = some u := by
  intro j u h
  have hc : PtAt (w.alloc (.cells #[.int .i64 a, .int .i64 c, .bool f, .int .i64 v] 99)) w.heap.size a c f v := heap_alloc_new _ _
  have hadd : (⟨w.heap.size, 0, none⟩ : Addr).add j = ⟨w.heap.size, j, none⟩ := by unfold Addr.add; split <;> simp_all
  rw [hadd, hc.cell j]
  simpa [ptCells] using h
theorem pt_one (a c : Int) (f : Bool) (v : Int) : ∀ u ∈ ptCells a c f v, u.oneCell' = true := by
  intro u hu
  simp only [ptCells, List.mem_cons, List.not_mem_nil, or_false] at hu
  rcases hu with rfl | rfl | rfl | rfl <;> rfl
theorem infoPt : (Tryz.prog.info? 99).map (fun i => (i.zero, i.size, i.bytes)) = some (some (.agg #[.int .i64 0, .int .i64 0, .bool false, .int .i64 0]), 4, 32) := by kernel_rfl
def PaRel (s : ByteArray) (q : UInt8) (w : World) (v a : Value) (wr : World) : Prop :=
  ∃ (k n : Nat) (xs : List Value), 1 ≤ k ∧ k ≤ s.size ∧ n ≤ k ∧ a = .int .i64 (k : Nat) ∧ Pst w v n xs wr ∧ prt q (s.data.toList.drop 1) = up (k - 1) (prt q (s.data.toList.drop k))
/-- what parts answers behind the first quote. -/
def PaPost (s : ByteArray) (e : Ending) : Prop :=
  ∃ v : Value, e = .returned (.tuple #[v, .int .i64 (strC s.data.toList).2, .bool (strC s.data.toList).1])
theorem strC_cons (s : ByteArray) (h : 0 < s.size) : strC s.data.toList = if s[0] ≠ 39 ∧ s[0] ≠ 34 then (false, 0)
    else if (prt s[0] (s.data.toList.drop 1)).1 = false then (false, 1 + (prt s[0] (s.data.toList.drop 1)).2)
    else if 1 + (prt s[0] (s.data.toList.drop 1)).2 = s.size - 1 then (true, 0)
    else (false, min (2 + (prt s[0] (s.data.toList.drop 1)).2) s.size) := by
  have hd := drop_cons s 0 h
  rw [List.drop_zero] at hd
  have hl : (s.data.toList.drop 1).length = s.size - 1 := by rw [List.length_drop, ofl]
  rw [hd, strC, hl]
  simp only [List.drop_succ_cons, List.drop_zero, Nat.zero_add] at hd ⊢
  rw [show s.size - 1 + 1 = s.size by omega]
theorem PtAt.grown {w w1 : World} {g : Nat} {a c v : Int} {f : Bool} {o : Obj} {r : Option Nat} (h : PtAt w g a c f v) (hg : (w.alloc o).grownBy w1 r) (hr : r ≠ some g) : PtAt w1 g a c f v := by
  have h1 : PtAt (w.alloc o) g a c f v := h.bel (Below.alloc (Below.refl _ w) (Nat.le_refl _) o)
  exact (hg.block g h1.lt (fun e => hr e.symm)).trans h1
theorem paPost_of {s : ByteArray} {v : Value} {a : Int} {f : Bool} {o : Bool × Nat} (h : strC s.data.toList = o) (h1 : a = ((o.2 : Nat) : Int)) (h2 : f = o.1) : PaPost s (.returned (.tuple #[v, .int .i64 a, .bool f])) := by
  unfold PaPost
  rw [h, h1, h2]
  exact ⟨v, rfl⟩
set_option maxRecDepth 20000 in
set_option maxHeartbeats 4000000 in
theorem parts_any (s : ByteArray) (w : World) (hs : s.size ≤ 16777216) (hT : Lib.Utf8Tabs 2 3 w) :
    Calls Tryz.prog 74 #[.string s] w fun e w' => PaPost s e ∧ Below w.heap.size w w' := by
  by_cases h0 : 0 < s.size
  · have hem := isEmpty_pos h0
    have hS := strC_cons s h0
    by_cases hq : s[0] = 39 ∨ s[0] = 34
    · rw [if_neg (by rintro ⟨h1, h2⟩; rcases hq with h | h; exact h1 h; exact h2 h)] at hS
      have HS := Lib.hid hS
      clear hS
      obtain ⟨i0, hi, hz0, hz1, hz2⟩ := info_parts infoPt
      have HT := Lib.hid hT
      have HP0 := Lib.hid (show Pst w (.slice none 0 0) 0 [] w from ⟨World.ownsRow_nil _ _ _ _, Below.refl _ _⟩)
      have HQ := Lib.hid hq
      clear hT hq
      go_enter Tryz.func74, Tryz.ntmps74
      go_wp2_with fail
      go_step3
      go_upto_region 1 with fail
      go_cut [22] from 11 to 21 (fun v wx => v = .bool false ∧ w = wx)
      case first =>
        rcases HQ.out with h | h
        · have b1 : (((s[0].toNat : Nat) : Int) != 39) = false := by rw [bne_eq_false_iff_eq, h]; rfl
          clear h
          go_wp2_with fail
          go_meet
          exact ⟨rfl, rfl⟩
        · have b1 : (((s[0].toNat : Nat) : Int) != 39) = true := by rw [h]; rfl
          have b2 : (((s[0].toNat : Nat) : Int) != 34) = false := by rw [bne_eq_false_iff_eq, h]; rfl
          clear h
          go_wp2_with fail
          go_meet
          exact ⟨rfl, rfl⟩
      case rest =>
        obtain ⟨rfl, rfl⟩ := hcut
        clear HQ
        go_wp2_with fail
        go_step3
        go_wp2_with fail
        go_loopw [5, 6, 7, 8, 9, 10, 41, 48, 60] (fun v a _ _ _ _ _ _ _ wr => PaRel s s[0] w v a wr) (fun _ a _ _ _ _ _ _ _ _ => s.size - (intOf a).toNat)
        case atStart => exact ⟨1, 0, [], Nat.le_refl _, h0, Nat.zero_le _, rfl, HP0.out, by rw [Nat.sub_self, up_zero]⟩
        case round =>
          clear HP0
          obtain ⟨k, n, xs, hk1, hk, hnk, rfl, hpst, heq⟩ := hrel
          by_cases hlt : k < s.size
          · have hx := drop_cons s k hlt
            have hstep := prt_step s[0] s[k] (s.data.toList.drop (k + 1))
            rw [← hx] at hstep
            rw [hstep] at heq
            have hd := Tryz.utf8_DecodeRuneInString (s.extract k s.size) wr (Utf8Tabs_below HT.out hpst.bel)
            have hn := decode_nx s k
            have hpz := fun h => nx_pos (l := s.data.toList.drop k) h
            rw [List.length_drop, ofl] at hpz
            have hle := decodeGo_le (s.extract k s.size)
            have hes := fun W h z hz => escape_any s k W hs hlt h z hz
            have hel := escS_le (l := s.data.toList.drop k) (by rw [hx]; simp)
            rw [List.length_drop, ofl] at hel
            generalize nx (s.data.toList.drop k) = q at *
            obtain ⟨⟨c, m⟩, hcm⟩ : ∃ q, Lib.decodeGo (s.extract k s.size) = q := ⟨_, rfl⟩
            rw [hcm] at hd hn hle
            simp only at hd hn hle
            clear hcm hstep hx
            obtain ⟨hle1, hle2⟩ := hle
            generalize escS (s.data.toList.drop k) = E at *
            have HEQ := Lib.hid heq
            have HD := Lib.hid hd
            have HN := Lib.hid hn
            have HPZ := Lib.hid hpz
            have HES := Lib.hid hes
            have HEL := Lib.hid hel
            have HP := Lib.hid hpst
            clear heq hd hn hpz hes hel hpst
            go_upto_region 8 with (go_at_call 106; refine HD.out.mono ?_; rintro e w1 ⟨rfl, hb1⟩)
            have hp1 := HP.out.next hb1
            have hp2 := hp1.next (Below.alloc (Below.refl _ w1) (Nat.le_refl _) (.cells #[.int .i64 k, .int .i64 ((k : Int) + (m : Int)), .bool false, .int .i64 c] 99))
            have hpt : PtAt (w1.alloc (.cells #[.int .i64 k, .int .i64 ((k : Int) + (m : Int)), .bool false, .int .i64 c] 99)) w1.heap.size k ((k : Int) + (m : Int)) false c := heap_alloc_new _ _
            have hne := hp1.own_lt
            have hgw := hp1.bel.size
            generalize w1.alloc (.cells #[.int .i64 k, .int .i64 ((k : Int) + (m : Int)), .bool false, .int .i64 c] 99) = w2 at *
            generalize w1.heap.size = g at *
            clear hp1 hb1 HD HP
            by_cases hq0 : s[k] = s[0]
            · have bq : (((s[k].toNat : Nat) : Int) == ((s[0].toNat : Nat) : Int)) = true := eq_fact hq0
              have HV := Lib.hid (show prt s[0] (s.data.toList.drop 1) = (true, k - 1) by rw [HEQ.out, if_pos hq0]; simp [up])
              clear HEQ HN HPZ HES HEL hq0
              have HB := Lib.hid hp2.bel
              clear hp2 hpt
              by_cases hend : k = s.size - 1
              · have be : (((k : Nat) : Int) != ((s.size : Nat) : Int) - 1) = false := by rw [bne_eq_false_iff_eq]; omega
                have HW := Lib.hid (show strC s.data.toList = (true, 0) by rw [HS.out, HV.out, if_neg (by simp), if_pos (by simp only; omega)])
                clear HS HV hend
                go_quiet (fail)
                go_wp2_with fail
                try rw [Exit.noGoto_ret]
                go_ret3
                exact ⟨paPost_of HW.out rfl rfl, bel_drewN HB.out _⟩
              · have be : (((k : Nat) : Int) != ((s.size : Nat) : Int) - 1) = true := by rw [bne_iff_ne]; omega
                have HW := Lib.hid (show strC s.data.toList = (false, k + 1) by
                  rw [HS.out, HV.out, if_neg (by simp), if_neg (by simp only; omega)]
                  congr 1
                  simp only
                  omega)
                clear HS HV hend
                go_quiet (fail)
                go_wp2_with fail
                try rw [Exit.noGoto_ret]
                go_ret3
                exact ⟨paPost_of HW.out (by simp only; first | omega | (split <;> omega)) rfl, bel_drewN HB.out _⟩
            · have bq : (((s[k].toNat : Nat) : Int) == ((s[0].toNat : Nat) : Int)) = false := ne_fact hq0
              have HQ2 := Lib.hid (HEQ.out.trans (by rw [if_neg hq0]))
              clear HEQ hq0
              by_cases hbad : c = 65533 ∧ m = 1
              · obtain ⟨rfl, rfl⟩ := hbad
                have HV := Lib.hid (show prt s[0] (s.data.toList.drop 1) = (false, k - 1) by
                  have hn := HN.out
                  rw [if_pos ⟨rfl, rfl⟩] at hn
                  rw [HQ2.out, hn, if_pos (.inl (by decide))]; simp [up])
                have HW := Lib.hid (show strC s.data.toList = (false, k) by
                  rw [HS.out, HV.out, if_pos rfl]
                  congr 1
                  simp only
                  omega)
                clear HQ2 HS HV HES HEL
                have HB := Lib.hid hp2.bel
                clear hp2 hpt
                go_quiet (fail)
                go_wp2_with fail
                try rw [Exit.noGoto_ret]
                go_ret3
                exact ⟨paPost_of HW.out rfl rfl, bel_drewN HB.out _⟩
              · have hn := HN.out
                rw [if_neg hbad] at hn
                subst hn
                have hbm : c = 65533 → (((m : Nat) : Int) == 1) = false := fun e => by rw [beq_eq_false_iff_ne]; intro h; exact hbad ⟨e, by omega⟩
                obtain ⟨m', hm', hm1, hm2, hm3⟩ := HPZ.out (show (0 : Int) ≤ (m : Int) by omega)
                simp only at hm'
                have hmm : m = m' := by omega
                subst hmm
                have hm0 : 0 < m := by
                  rcases Nat.eq_zero_or_pos m with h | h
                  · have := congrArg List.length (hm3.2 h)
                    rw [List.length_drop, ofl] at this
                    simp at this
                    omega
                  · exact h
                clear HN HPZ hm' hm3
                by_cases h10 : c = 10
                · subst h10
                  have HV := Lib.hid (show prt s[0] (s.data.toList.drop 1) = (false, k - 1) by rw [HQ2.out, if_pos (.inr (.inl rfl))]; simp [up])
                  clear hbm
                  have HW := Lib.hid (show strC s.data.toList = (false, k) by
                    rw [HS.out, HV.out, if_pos rfl]
                    congr 1
                    simp only
                    omega)
                  clear HQ2 HS HV HES HEL
                  have HB := Lib.hid hp2.bel
                  clear hp2 hpt
                  go_quiet (fail)
                  go_wp2_with fail
                  try rw [Exit.noGoto_ret]
                  go_ret3
                  exact ⟨paPost_of HW.out rfl rfl, bel_drewN HB.out _⟩
                · by_cases h13 : c = 13
                  · subst h13
                    have HV := Lib.hid (show prt s[0] (s.data.toList.drop 1) = (false, k - 1) by rw [HQ2.out, if_pos (.inr (.inr rfl))]; simp [up])
                    clear hbm h10
                    have HW := Lib.hid (show strC s.data.toList = (false, k) by
                      rw [HS.out, HV.out, if_pos rfl]
                      congr 1
                      simp only
                      omega)
                    clear HQ2 HS HV HES HEL
                    have HB := Lib.hid hp2.bel
                    clear hp2 hpt
                    go_quiet (fail)
                    go_wp2_with fail
                    try rw [Exit.noGoto_ret]
                    go_ret3
                    exact ⟨paPost_of HW.out rfl rfl, bel_drewN HB.out _⟩
                  · have HQ3 := Lib.hid (HQ2.out.trans (by rw [if_neg (by rintro (h | h | h); simp only at h; omega; simp only at h; omega; simp only at h; omega)]))
                    clear HQ2
                    by_cases h92 : c = 92
                    · subst h92
                      clear hbm h10 h13 hbad
                      cases hE1 : E.1 with
                      | false =>
                        have HV := Lib.hid (show prt s[0] (s.data.toList.drop 1) = (false, k - 1 + E.2) by rw [HQ3.out, if_pos (show ((((92 : Nat) : Int), ((m : Nat) : Int)) : Int × Int).1 = 92 from rfl), if_neg (by rw [hE1]; decide)]; simp [up, hE1])
                        have HW := Lib.hid (show strC s.data.toList = (false, k + E.2) by
                          rw [HS.out, HV.out, if_pos rfl]
                          congr 1
                          simp only
                          omega)
                        clear HQ3 HS HV
                        have HP := Lib.hid hp2
                        clear hp2
                        obtain ⟨d0, d1, d2, d3, g0, g1, g2, g3⟩ := PtAt.facts hpt
                        go_quiet (fail)
                        go_upto_region 15 with fail
                        clear d0 d1 d2 d3 g0 g1 g2 g3
                        generalize hwd : w2.drewN _ = w3 at *
                        have hbd : Below w2.heap.size w2 w3 := by rw [← hwd]; exact bel_drewN (Below.refl _ _) _
                        clear hwd
                        have hpt3 := hpt.bel hbd
                        replace HP := Lib.hid (HP.out.next hbd)
                        clear hbd hpt
                        obtain ⟨d0, d1, d2, d3, g0, g1, g2, g3⟩ := PtAt.facts hpt3
                        go_upto_region 16 with fail
                        have hpt4 := hpt3.set2 true
                        have hp4 := HP.out.setCell (u := .bool true) 2 hgw hne
                        clear d0 d1 d2 d3 g0 g1 g2 g3 HP
                        clear hpt3
                        generalize World.setCell _ _ _ = w4 at *
                        have HP := Lib.hid hp4
                        have HPT := Lib.hid hpt4
                        clear hp4 hpt4
                        go_upto_region 17 with (go_at_call 107; refine (HES.out _ (Utf8Tabs_below HT.out HP.out.bel) _ rfl).mono ?_; rintro e w5 ⟨⟨x, rfl⟩, hb5⟩; replace HP := Lib.hid (HP.out.next hb5); have hpt5 := HPT.out.bel hb5; clear hb5; obtain ⟨d0, d1, d2, d3, g0, g1, g2, g3⟩ := PtAt.facts hpt5)
                        have hpt6 := (hpt5.set3 x).set1 ((k : Int) + ((E.2 : Nat) : Int))
                        have hp6 := (HP.out.setCell (u := .int .i64 x) 3 hgw hne).setCell (u := .int .i64 ((k : Int) + ((E.2 : Nat) : Int))) 1 hgw hne
                        clear d0 d1 d2 d3 g0 g1 g2 g3 HP hpt5
                        generalize World.setCell (World.setCell _ _ _) _ _ = w6 at *
                        have HP := Lib.hid hp6
                        clear hp6
                        obtain ⟨d0, d1, d2, d3, g0, g1, g2, g3⟩ := PtAt.facts hpt6
                        go_upto_region 18 with fail
                        go_quiet (fail)
                        go_wp2_with fail
                        try rw [Exit.noGoto_ret]
                        go_ret3
                        exact ⟨paPost_of HW.out (by simp only; omega) rfl, bel_drewN HP.out.bel _⟩
                      | true =>
                        have HV := Lib.hid (show prt s[0] (s.data.toList.drop 1) = up (k + E.2 - 1) (prt s[0] (s.data.toList.drop (k + E.2))) by
                          rw [HQ3.out, if_pos (show ((((92 : Nat) : Int), ((m : Nat) : Int)) : Int × Int).1 = 92 from rfl), if_pos hE1, up_up, List.drop_drop, show k - 1 + E.2 = k + E.2 - 1 by omega])
                        obtain ⟨hel1, hel2⟩ := HEL.out
                        generalize hE2 : E.2 = t at *
                        clear HQ3 HS hE2
                        have HP := Lib.hid hp2
                        clear hp2
                        obtain ⟨d0, d1, d2, d3, g0, g1, g2, g3⟩ := PtAt.facts hpt
                        go_quiet (fail)
                        go_upto_region 15 with fail
                        clear d0 d1 d2 d3 g0 g1 g2 g3
                        generalize hwd : w2.drewN _ = w3 at *
                        have hbd : Below w2.heap.size w2 w3 := by rw [← hwd]; exact bel_drewN (Below.refl _ _) _
                        clear hwd
                        have hpt3 := hpt.bel hbd
                        replace HP := Lib.hid (HP.out.next hbd)
                        clear hbd hpt
                        obtain ⟨d0, d1, d2, d3, g0, g1, g2, g3⟩ := PtAt.facts hpt3
                        go_upto_region 16 with fail
                        have hpt4 := hpt3.set2 true
                        have hp4 := HP.out.setCell (u := .bool true) 2 hgw hne
                        clear d0 d1 d2 d3 g0 g1 g2 g3 HP
                        clear hpt3
                        generalize World.setCell _ _ _ = w4 at *
                        have HP := Lib.hid hp4
                        have HPT := Lib.hid hpt4
                        clear hp4 hpt4
                        go_upto_region 17 with (go_at_call 107; refine (HES.out _ (Utf8Tabs_below HT.out HP.out.bel) _ rfl).mono ?_; rintro e w5 ⟨⟨x, rfl⟩, hb5⟩; replace HP := Lib.hid (HP.out.next hb5); have hpt5 := HPT.out.bel hb5; clear hb5; obtain ⟨d0, d1, d2, d3, g0, g1, g2, g3⟩ := PtAt.facts hpt5)
                        have hpt6 := (hpt5.set3 x).set1 ((k : Int) + ((t : Nat) : Int))
                        have hp6 := (HP.out.setCell (u := .int .i64 x) 3 hgw hne).setCell (u := .int .i64 ((k : Int) + ((t : Nat) : Int))) 1 hgw hne
                        clear d0 d1 d2 d3 g0 g1 g2 g3 HP hpt5
                        generalize World.setCell (World.setCell _ _ _) _ _ = w6 at *
                        have HP := Lib.hid hp6
                        clear hp6
                        obtain ⟨d0, d1, d2, d3, g0, g1, g2, g3⟩ := PtAt.facts hpt6
                        go_upto_region 19 with fail
                        have hown := HP.out.own
                        have hsz := HP.out.bel.size
                        have hone := pt_one k ((k : Int) + ((t : Nat) : Int)) true x
                        go_wp2_with (at_builtin; refine wpList_append_own_at _ rfl _ _ 79 rfl w.heap.size 99 i0 (.agg #[.int .i64 0, .int .i64 0, .bool false, .int .i64 0]) 4 32 (by kernel_rfl) hi hz0 hz1 hz2 rfl (by decide) _ _ _ rfl (hown.alloc _) ⟨w6.heap.size, 0, none⟩ 1 1 (ptCells k ((k : Int) + ((t : Nat) : Int)) true x) rfl rfl (pt_new _ _ _ _ _) hone (by unfold maxLen; omega) (by omega) (by rw [World.size_alloc]; omega) ?_)
                        intro v' w7 hown' hgrow _ _
                        have hpush := Pst.push HP.out hgrow hown'
                        have hpt7 := hpt6.grown hgrow hne
                        clear d0 d1 d2 d3 g0 g1 g2 g3
                        clear hown' hgrow hown hpt6
                        obtain ⟨d0, d1, d2, d3, g0, g1, g2, g3⟩ := PtAt.facts hpt7
                        go_wp2_with fail
                        go_roundw
                        case rel => exact ⟨k + t, n + 1, _, by omega, by omega, by omega, by go_num, hpush, HV.out⟩
                        case measure => simp [intOf]; omega
                    · have HV := Lib.hid (show prt s[0] (s.data.toList.drop 1) = up (k + m - 1) (prt s[0] (s.data.toList.drop (k + m))) by
                        rw [HQ3.out, if_neg (by simp only; omega), up_up, List.drop_drop, Int.toNat_natCast, show k - 1 + m = k + m - 1 by omega])
                      have b10 : (((c : Nat) : Int) == 10) = false := by rw [beq_eq_false_iff_ne]; omega
                      have b13 : (((c : Nat) : Int) == 13) = false := by rw [beq_eq_false_iff_ne]; omega
                      have b92 : (((c : Nat) : Int) == 92) = false := by rw [beq_eq_false_iff_ne]; omega
                      clear HQ3 HS HES HEL h10 h13 h92
                      have HP := Lib.hid hp2
                      clear hp2
                      obtain ⟨d0, d1, d2, d3, g0, g1, g2, g3⟩ := PtAt.facts hpt
                      by_cases hff : c = 65533
                      · have bm := hbm hff
                        subst hff
                        clear hbm hbad
                        go_quiet (fail)
                        go_upto_region 19 with fail
                        clear d0 d1 d2 d3 g0 g1 g2 g3
                        generalize hwd : w2.drewN _ = w3 at *
                        have hbd : Below w2.heap.size w2 w3 := by rw [← hwd]; exact bel_drewN (Below.refl _ _) _
                        clear hwd
                        have hpt6 := hpt.bel hbd
                        replace HP := Lib.hid (HP.out.next hbd)
                        clear hbd hpt
                        obtain ⟨d0, d1, d2, d3, g0, g1, g2, g3⟩ := PtAt.facts hpt6
                        have hown := HP.out.own
                        have hsz := HP.out.bel.size
                        have hone := pt_one k ((k : Int) + (m : Int)) false 65533
                        go_wp2_with (at_builtin; refine wpList_append_own_at _ rfl _ _ 79 rfl w.heap.size 99 i0 (.agg #[.int .i64 0, .int .i64 0, .bool false, .int .i64 0]) 4 32 (by kernel_rfl) hi hz0 hz1 hz2 rfl (by decide) _ _ _ rfl (hown.alloc _) ⟨w3.heap.size, 0, none⟩ 1 1 (ptCells k ((k : Int) + (m : Int)) false 65533) rfl rfl (pt_new _ _ _ _ _) hone (by unfold maxLen; omega) (by omega) (by rw [World.size_alloc]; omega) ?_)
                        intro v' w7 hown' hgrow _ _
                        have hpush := Pst.push HP.out hgrow hown'
                        have hpt7 := hpt6.grown hgrow hne
                        clear d0 d1 d2 d3 g0 g1 g2 g3
                        clear hown' hgrow hown hpt6
                        obtain ⟨d0, d1, d2, d3, g0, g1, g2, g3⟩ := PtAt.facts hpt7
                        go_wp2_with fail
                        go_roundw
                        case rel => exact ⟨k + m, n + 1, _, by omega, by omega, by omega, by go_num, hpush, HV.out⟩
                        case measure => simp [intOf]; omega
                      · have bm : (((c : Nat) : Int) == 65533) = false := by rw [beq_eq_false_iff_ne]; omega
                        clear hbm hbad hff
                        go_quiet (fail)
                        go_upto_region 19 with fail
                        clear d0 d1 d2 d3 g0 g1 g2 g3
                        generalize hwd : w2.drewN _ = w3 at *
                        have hbd : Below w2.heap.size w2 w3 := by rw [← hwd]; exact bel_drewN (Below.refl _ _) _
                        clear hwd
                        have hpt6 := hpt.bel hbd
                        replace HP := Lib.hid (HP.out.next hbd)
                        clear hbd hpt
                        obtain ⟨d0, d1, d2, d3, g0, g1, g2, g3⟩ := PtAt.facts hpt6
                        have hown := HP.out.own
                        have hsz := HP.out.bel.size
                        have hone := pt_one k ((k : Int) + (m : Int)) false (c : Int)
                        go_wp2_with (at_builtin; refine wpList_append_own_at _ rfl _ _ 79 rfl w.heap.size 99 i0 (.agg #[.int .i64 0, .int .i64 0, .bool false, .int .i64 0]) 4 32 (by kernel_rfl) hi hz0 hz1 hz2 rfl (by decide) _ _ _ rfl (hown.alloc _) ⟨w3.heap.size, 0, none⟩ 1 1 (ptCells k ((k : Int) + (m : Int)) false (c : Int)) rfl rfl (pt_new _ _ _ _ _) hone (by unfold maxLen; omega) (by omega) (by rw [World.size_alloc]; omega) ?_)
                        intro v' w7 hown' hgrow _ _
                        have hpush := Pst.push HP.out hgrow hown'
                        have hpt7 := hpt6.grown hgrow hne
                        clear d0 d1 d2 d3 g0 g1 g2 g3
                        clear hown' hgrow hown hpt6
                        obtain ⟨d0, d1, d2, d3, g0, g1, g2, g3⟩ := PtAt.facts hpt7
                        go_wp2_with fail
                        go_roundw
                        case rel => exact ⟨k + m, n + 1, _, by omega, by omega, by omega, by go_num, hpush, HV.out⟩
                        case measure => simp [intOf]; omega
          · obtain rfl : k = s.size := by omega
            have HW := Lib.hid (show strC s.data.toList = (false, s.size) by
              rw [HS.out, heq, drop_all, prt_nil, if_neg (by simp [up]), if_neg (by simp only [up]; omega)]
              congr 1
              simp only [up]
              omega)
            have be : (((s.size : Nat) : Int) != ((s.size : Nat) : Int) - 1) = true := by rw [bne_iff_ne]; omega
            have HB := Lib.hid hpst.bel
            clear HS heq hpst
            go_wp2_with fail
            try rw [Exit.noGoto_ret]
            go_ret3
            exact ⟨paPost_of HW.out (by simp only; first | omega | (split <;> omega)) rfl, HB.out⟩
    · rw [if_pos ⟨fun h => hq (.inl h), fun h => hq (.inr h)⟩] at hS
      have b1 : (((s[0].toNat : Nat) : Int) != 39) = true := by rw [bne_iff_ne]; exact fun e => hq (.inl (UInt8.toNat.inj (by rw [show s[0].toNat = 39 by omega]; rfl)))
      have b2 : (((s[0].toNat : Nat) : Int) != 34) = true := by rw [bne_iff_ne]; exact fun e => hq (.inr (UInt8.toNat.inj (by rw [show s[0].toNat = 34 by omega]; rfl)))
      have HS := Lib.hid hS
      clear hS hq
      go_enter Tryz.func74, Tryz.ntmps74
      go_wp2_with fail
      go_step3
      go_wp2_with fail
      try rw [Exit.noGoto_ret]
      go_ret3
      exact ⟨paPost_of HS.out rfl rfl, Below.refl _ _⟩
  · have hem := isEmpty_zero (show s.size = 0 by omega)
    have hS : strC s.data.toList = (false, 0) := by
      rw [List.length_eq_zero_iff.1 (show s.data.toList.length = 0 by rw [ofl]; omega)]
      rfl
    have HS := Lib.hid hS
    clear hS
    go_enter Tryz.func74, Tryz.ntmps74
    go_wp2_with fail
    go_step3
    go_wp2_with fail
    try rw [Exit.noGoto_ret]
    go_ret3
    exact ⟨paPost_of HS.out rfl rfl, Below.refl _ _⟩
set_option maxRecDepth 20000 in
set_option maxHeartbeats 1000000 in
/-- str.Check. -/
theorem scheck_any (s : ByteArray) (w : World) (hs : s.size ≤ 16777216) (hT : Lib.Utf8Tabs 2 3 w) :
    Calls Tryz.prog 48 #[.string s] w fun e w' => e = .returned (.tuple #[.int .i64 (if (strC s.data.toList).1 = true then 0 else ((strC s.data.toList).2 : Int)), .int .i64 (if (strC s.data.toList).1 = true then 0 else 300)]) ∧ Below w.heap.size w w' := by
  have hp := parts_any s w hs hT
  unfold PaPost at hp
  generalize strC s.data.toList = o at *
  obtain ⟨f, a⟩ := o
  simp only at hp ⊢
  have HP := Lib.hid hp
  clear hp hT
  cases f with
  | true =>
    go_enter Tryz.func48, Tryz.ntmps48
    go_wp2_with (go_at_call 74; refine HP.out.mono ?_; rintro e w1 ⟨⟨v, rfl⟩, hb1⟩)
    go_ret2
    exact ⟨rfl, hb1⟩
  | false =>
    go_enter Tryz.func48, Tryz.ntmps48
    go_wp2_with (go_at_call 74; refine HP.out.mono ?_; rintro e w1 ⟨⟨v, rfl⟩, hb1⟩)
    go_ret2
    exact ⟨rfl, hb1⟩
end Go.Proofs.YteejjkfmmhegmaaGreatDoor
