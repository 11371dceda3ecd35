/- Contract of str.simple: strings.IndexRune in the six letters. Condition: the character is one that a text may hold. -/
import Derived.Test.YteejjkfmmhegmaaGreatDoorLP
import Derived.Lib.DecodeN
import Derived.Laws.RangeAny
import Derived.Deep.LoopGhost
import Derived.WalkMore
namespace Go.Proofs.YteejjkfmmhegmaaGreatDoor
open Go.RowKit

theorem get_bang (s : ByteArray) (i : Nat) (h : i < s.size) : s.get! i = s[i] := by have := get_at s i h; simpa using this
/-- a character of more than one byte: its bytes are none below 128. -/
theorem decode_wide (s : ByteArray) (pos : Nat) (h : pos < s.size) (ha : 128 ≤ (s[pos]'h).toNat) :
    1 ≤ (Utf8.decode s pos).2 ∧ pos + (Utf8.decode s pos).2 ≤ s.size ∧ (128 ≤ (Utf8.decode s pos).1 ∧ (Utf8.decode s pos).1 ≤ 1114111 ∧ ((Utf8.decode s pos).1 < 55296 ∨ 57343 < (Utf8.decode s pos).1)) ∧
      ∀ j, j < (Utf8.decode s pos).2 → ∃ hj : pos + j < s.size, 128 ≤ (s[pos + j]'hj).toNat := by
  rw [Lib.decode_at, get_bang s pos h]
  have hb1 := (s.get! (pos + 1)).toNat_lt
  have hb2 := (s.get! (pos + 2)).toNat_lt
  have hb3 := (s.get! (pos + 3)).toNat_lt
  have hb0 := (s[pos]'h).toNat_lt
  have g1 : ∀ h1 : pos + 1 < s.size, s.get! (pos + 1) = s[pos + 1] := get_bang s _
  have g2 : ∀ h1 : pos + 2 < s.size, s.get! (pos + 2) = s[pos + 2] := get_bang s _
  have g3 : ∀ h1 : pos + 3 < s.size, s.get! (pos + 3) = s[pos + 3] := get_bang s _
  have one : (1 ≤ 1 ∧ pos + 1 ≤ s.size ∧ (128 ≤ 65533 ∧ 65533 ≤ 1114111 ∧ (65533 < 55296 ∨ 57343 < 65533)) ∧ ∀ j, j < 1 → ∃ hj : pos + j < s.size, 128 ≤ (s[pos + j]'hj).toNat) := by
    refine ⟨by omega, by omega, by omega, fun j hj => ?_⟩
    obtain rfl : j = 0 := by omega
    exact ⟨h, ha⟩
  have hd : ∀ v n : Nat, 1 ≤ n → n ≤ 4 → pos + n ≤ s.size → (128 ≤ v ∧ v ≤ 1114111 ∧ (v < 55296 ∨ 57343 < v)) → (2 ≤ n → 128 ≤ (s.get! (pos + 1)).toNat) → (3 ≤ n → 128 ≤ (s.get! (pos + 2)).toNat) → (4 ≤ n → 128 ≤ (s.get! (pos + 3)).toNat) →
      (1 ≤ n ∧ pos + n ≤ s.size ∧ (128 ≤ v ∧ v ≤ 1114111 ∧ (v < 55296 ∨ 57343 < v)) ∧ ∀ j, j < n → ∃ hj : pos + j < s.size, 128 ≤ (s[pos + j]'hj).toNat) := by
    intro v n h1 h4 hn hv a1 a2 a3
    refine ⟨h1, hn, hv, fun j hj => ?_⟩
    have hjs : pos + j < s.size := by omega
    refine ⟨hjs, ?_⟩
    have : j = 0 ∨ j = 1 ∨ j = 2 ∨ j = 3 := by omega
    rcases this with rfl | rfl | rfl | rfl
    · exact ha
    · rw [← g1 hjs]; exact a1 (by omega)
    · rw [← g2 hjs]; exact a2 (by omega)
    · rw [← g3 hjs]; exact a3 (by omega)
  clear g1 g2 g3
  generalize (s[pos]'h).toNat = b0 at *
  generalize (s.get! (pos + 1)).toNat = b1 at *
  generalize (s.get! (pos + 2)).toNat = b2 at *
  generalize (s.get! (pos + 3)).toNat = b3 at *
  unfold Lib.decodeN
  split
  · omega
  · split
    · rename_i hc
      split
      · exact hd _ 2 (by omega) (by omega) (by omega) (by omega) (by omega) (by omega) (by omega)
      · exact one
    · split
      · rename_i hc
        split
        · exact hd _ 3 (by omega) (by omega) (by omega) (by omega) (by omega) (by omega) (by omega)
        · exact one
      · split
        · rename_i hc
          split
          · exact hd _ 4 (by omega) (by omega) (by omega) (by omega) (by omega) (by omega) (by omega)
          · exact one
        · exact one

theorem decode_low (s : ByteArray) (pos : Nat) (h : pos < s.size) (ha : (s[pos]'h).toNat < 128) : Utf8.decode s pos = ((s[pos]'h).toNat, 1) := by
  rw [Lib.decode_at, get_bang s pos h, Lib.decodeN, if_pos ha]

def six : ByteArray := ⟨#[98, 102, 110, 114, 116, 118]⟩
theorem six_low : ∀ j : Fin 6, (six[j.val]'(by have := j.2; exact this)).toNat < 128 := by decide
theorem six_at (j : Nat) (h : j < 6) : (six[j]'h).toNat < 128 := six_low ⟨j, h⟩
theorem hi_ix2 (c : UInt8) (h : 128 ≤ c.toNat) : Lib.indexByte (({ data := #[98, 102, 110, 114, 116, 118] } : ByteArray).extract 2 6).data.toList c = -1 := by
  have h0 : ∀ c : Fin 256, 128 ≤ c.val → Lib.indexByte (({ data := #[98, 102, 110, 114, 116, 118] } : ByteArray).extract 2 6).data.toList c.val.toUInt8 = -1 := by decide +kernel
  have := h0 ⟨c.toNat, c.toNat_lt⟩ h
  simpa using this
theorem hi_ix3 (c : UInt8) (h : 128 ≤ c.toNat) : Lib.indexByte (({ data := #[98, 102, 110, 114, 116, 118] } : ByteArray).extract 3 6).data.toList c = -1 := by
  have h0 : ∀ c : Fin 256, 128 ≤ c.val → Lib.indexByte (({ data := #[98, 102, 110, 114, 116, 118] } : ByteArray).extract 3 6).data.toList c.val.toUInt8 = -1 := by decide +kernel
  have := h0 ⟨c.toNat, c.toNat_lt⟩ h
  simpa using this
theorem hi_ix4 (c : UInt8) (h : 128 ≤ c.toNat) : Lib.indexByte (({ data := #[98, 102, 110, 114, 116, 118] } : ByteArray).extract 4 6).data.toList c = -1 := by
  have h0 : ∀ c : Fin 256, 128 ≤ c.val → Lib.indexByte (({ data := #[98, 102, 110, 114, 116, 118] } : ByteArray).extract 4 6).data.toList c.val.toUInt8 = -1 := by decide +kernel
  have := h0 ⟨c.toNat, c.toNat_lt⟩ h
  simpa using this
set_option maxRecDepth 1000000 in
set_option maxHeartbeats 1000000 in
theorem indexRune_wide (r : Nat) (h0 : 128 ≤ r) (h1 : r ≤ 1114111) (h2 : r < 55296 ∨ 57343 < r) (h3 : r ≠ 65533) (w : World) :
    Calls Tryz.prog 155 #[.string ⟨#[98, 102, 110, 114, 116, 118]⟩, .int .i32 r] w fun e w' => e = .returned (.int .i64 (-1)) ∧ Below w.heap.size w w' := by
  have hv := Lib.hid (show Lib.validRune (r : Int) = true by simp [Lib.validRune]; omega)
  have h3' : ((r : Int) == 65533) = false := by rw [beq_eq_false_iff_ne]; omega
  have hva : Utf8.valid (r : Int) = true := by simp [Utf8.valid]; omega
  obtain ⟨hz2, hz4, hb⟩ := encode_facts (r : Int) hva (by omega)
  clear hva
  generalize hrs : Utf8.encode (r : Int) = rs at *
  clear h1 h2 h3
  have hlast : 128 ≤ (rs[rs.size - 1]'(by omega)).toNat := hb (by omega)
  clear hb
  go_enter Tryz.func155, Tryz.ntmps155
  go_wp2_with (go_at_call 170; refine (Tryz.utf8_ValidRune _ _).mono ?_; rintro e w' ⟨rfl, rfl⟩; rw [hv.out])
  clear hv h3' h0
  go_step3
  have hzc : rs.size = 2 ∨ rs.size = 3 ∨ rs.size = 4 := by omega
  rcases hzc with hz | hz | hz
  · have hb1 : 128 ≤ (rs[1]'(by omega)).toNat := by simpa [hz] using hlast
    clear hlast
    go_wp2_with fail
    refine wp_loop_rounds 1 ?_
    rw [rounds_succ]
    go_wp2_with fail
    go_step3
    have hne : ((((⟨#[98, 102, 110, 114, 116, 118]⟩ : ByteArray)[1]'(by decide)).toNat : Int) != (rs[1].toNat : Int)) = true := by
      rw [bne_iff_ne]
      show (102 : Int) ≠ _
      omega
    go_wp2_with fail
    go_quiet (fail)
    go_wp2_with fail
    clear hne
    generalize hwq : w'.drewN _ = wq
    have hbq : Below w'.heap.size w' wq := by rw [← hwq]; exact bel_drewN (Below.refl _ _) _
    clear hwq
    have hib : Lib.indexByte (({ data := #[98, 102, 110, 114, 116, 118] } : ByteArray).extract 2 6).data.toList (rs[1].toNat : Int).toNat.toUInt8 = -1 := by
      rw [show ((rs[1].toNat : Int)).toNat.toUInt8 = rs[1] by simp]
      exact hi_ix2 rs[1] hb1
    go_quiet ((go_at_call 123; exact Calls.quiet_of_same (Tryz.strings_IndexByte _ _ _)))
    rw [hib]
    clear hib
    go_wp2_with fail
    rw [Exit.noGoto_ret]
    go_wp2_with fail
    rw [Exit.noGoto_ret]
    go_ret
    exact ⟨rfl, bel_drewN hbq _⟩
  · have hb1 : 128 ≤ (rs[2]'(by omega)).toNat := by simpa [hz] using hlast
    clear hlast
    go_wp2_with fail
    refine wp_loop_rounds 1 ?_
    rw [rounds_succ]
    go_wp2_with fail
    go_step3
    have hne : ((((⟨#[98, 102, 110, 114, 116, 118]⟩ : ByteArray)[2]'(by decide)).toNat : Int) != (rs[2].toNat : Int)) = true := by
      rw [bne_iff_ne]
      show (110 : Int) ≠ _
      omega
    go_wp2_with fail
    go_quiet (fail)
    go_wp2_with fail
    clear hne
    generalize hwq : w'.drewN _ = wq
    have hbq : Below w'.heap.size w' wq := by rw [← hwq]; exact bel_drewN (Below.refl _ _) _
    clear hwq
    have hib : Lib.indexByte (({ data := #[98, 102, 110, 114, 116, 118] } : ByteArray).extract 3 6).data.toList (rs[2].toNat : Int).toNat.toUInt8 = -1 := by
      rw [show ((rs[2].toNat : Int)).toNat.toUInt8 = rs[2] by simp]
      exact hi_ix3 rs[2] hb1
    go_quiet ((go_at_call 123; exact Calls.quiet_of_same (Tryz.strings_IndexByte _ _ _)))
    rw [hib]
    clear hib
    go_wp2_with fail
    rw [Exit.noGoto_ret]
    go_wp2_with fail
    rw [Exit.noGoto_ret]
    go_ret
    exact ⟨rfl, bel_drewN hbq _⟩
  · have hb1 : 128 ≤ (rs[3]'(by omega)).toNat := by simpa [hz] using hlast
    clear hlast
    go_wp2_with fail
    refine wp_loop_rounds 1 ?_
    rw [rounds_succ]
    go_wp2_with fail
    go_step3
    have hne : ((((⟨#[98, 102, 110, 114, 116, 118]⟩ : ByteArray)[3]'(by decide)).toNat : Int) != (rs[3].toNat : Int)) = true := by
      rw [bne_iff_ne]
      show (114 : Int) ≠ _
      omega
    go_wp2_with fail
    go_quiet (fail)
    go_wp2_with fail
    clear hne
    generalize hwq : w'.drewN _ = wq
    have hbq : Below w'.heap.size w' wq := by rw [← hwq]; exact bel_drewN (Below.refl _ _) _
    clear hwq
    have hib : Lib.indexByte (({ data := #[98, 102, 110, 114, 116, 118] } : ByteArray).extract 4 6).data.toList (rs[3].toNat : Int).toNat.toUInt8 = -1 := by
      rw [show ((rs[3].toNat : Int)).toNat.toUInt8 = rs[3] by simp]
      exact hi_ix4 rs[3] hb1
    go_quiet ((go_at_call 123; exact Calls.quiet_of_same (Tryz.strings_IndexByte _ _ _)))
    rw [hib]
    clear hib
    go_wp2_with fail
    rw [Exit.noGoto_ret]
    go_wp2_with fail
    rw [Exit.noGoto_ret]
    go_ret
    exact ⟨rfl, bel_drewN hbq _⟩
set_option maxRecDepth 1000000 in
set_option maxHeartbeats 1000000 in
theorem indexRune_fffd (w : World) :
    Calls Tryz.prog 155 #[.string six, .int .i32 65533] w fun e w' => e = .returned (.int .i64 (-1)) ∧ Below w.heap.size w w' := by
  obtain ⟨s, hs6⟩ : ∃ s, six = s := ⟨_, rfl⟩
  have hsz : s.size = 6 := by rw [← hs6]; rfl
  have hlow : ∀ j (h : j < s.size), s[j].toNat < 128 := by subst hs6; exact six_at
  rw [hs6]
  clear hs6
  have HL := Lib.hid hlow
  clear hlow
  go_enter Tryz.func155, Tryz.ntmps155
  go_wp2_with fail
  go_loopw [5, 6] (fun _ _ wx => ∃ i : Nat, i ≤ s.size ∧ wx.heap[w.heap.size]? = some (.stringIter s i) ∧ Below w.heap.size w wx ∧ w.heap.size < wx.heap.size) (fun _ _ wx => s.size - wx.iterPos w.heap.size)
  case atStart => exact ⟨0, by omega, World.iter_heap _ _ _, (Below.refl _ _).alloc (Nat.le_refl _) _, by show _ < (w.heap.push _).size; simp⟩
  case round =>
    obtain ⟨i, hi, hk, hb, hlt⟩ := hrel
    by_cases hlts : i < s.size
    · have hnx := fun ty => Lib.run_next_any_at (P := Tryz.prog) wr _ s i ty hk hlts
      have hl := HL.out i hlts
      rw [decode_low s i hlts hl] at hnx
      have b1 : ((s[i].toNat : Int) == 65533) = false := by rw [beq_eq_false_iff_ne]; omega
      simp only at hnx
      have hk2 := Lib.iterAt_heap wr _ s i (i + 1) hk
      have hb2 : Below w.heap.size w (wr.iterAt w.heap.size s (i + 1)) := Lib.below_iterAt hb (Nat.le_refl _) _ _
      have hl2 : w.heap.size < (wr.iterAt w.heap.size s (i + 1)).heap.size := by rw [Lib.iterAt_size]; exact hlt
      generalize wr.iterAt w.heap.size s (i + 1) = w2 at *
      have HK := Lib.hid hk2
      have HKr := Lib.hid hk
      clear hk hk2 hb
      go_wp2_with fail
      go_roundw
      case rel => exact ⟨i + 1, by omega, HK.out, hb2, hl2⟩
      case measure => simp [World.iterPos, HK.out, HKr.out]; omega
    · obtain rfl : i = s.size := by omega
      have hnx := fun ty => Lib.run_next_end_at (P := Tryz.prog) wr _ s s.size ty hk (by omega)
      go_wp2_with fail
      go_ret
      exact ⟨rfl, hb⟩
theorem six_ix (i : Int) (h : 0 ≤ i) (h' : i < 6) : ∃ x : Int, ∀ W, (Instr.index 151 (.agg #[.int .i64 8, .int .i64 12, .int .i64 10, .int .i64 13, .int .i64 9, .int .i64 11]) (.int .i64 i)).run Tryz.prog W = .ok (.int .i64 x) W := by
  have hc : i = 0 ∨ i = 1 ∨ i = 2 ∨ i = 3 ∨ i = 4 ∨ i = 5 := by omega
  rcases hc with rfl | rfl | rfl | rfl | rfl | rfl
  · exact ⟨8, fun W => by simp [Instr.index, run_underlying Tryz.underlying151, asIntOf, go_sem]⟩
  · exact ⟨12, fun W => by simp [Instr.index, run_underlying Tryz.underlying151, asIntOf, go_sem]⟩
  · exact ⟨10, fun W => by simp [Instr.index, run_underlying Tryz.underlying151, asIntOf, go_sem]⟩
  · exact ⟨13, fun W => by simp [Instr.index, run_underlying Tryz.underlying151, asIntOf, go_sem]⟩
  · exact ⟨9, fun W => by simp [Instr.index, run_underlying Tryz.underlying151, asIntOf, go_sem]⟩
  · exact ⟨11, fun W => by simp [Instr.index, run_underlying Tryz.underlying151, asIntOf, go_sem]⟩
set_option maxRecDepth 20000 in
set_option maxHeartbeats 1000000 in
theorem simple_any (r : Int) (h0 : 0 ≤ r) (h1 : r ≤ 1114111) (h2 : r < 55296 ∨ 57343 < r) (w : World) :
    Calls Tryz.prog 129 #[.int .i32 r] w fun e w' => (∃ x : Int, e = .returned (.int .i64 x)) ∧ Below w.heap.size w w' := by
  have hI : ∃ i : Int, i < 6 ∧ ∀ W, Calls Tryz.prog 155 #[.string six, .int .i32 r] W fun e w' => e = .returned (.int .i64 i) ∧ Below W.heap.size W w' := by
    by_cases h3 : r < 128
    · refine ⟨Lib.indexByte six.data.toList r.toNat.toUInt8, ?_, fun W => ((Tryz.strings_IndexRune_ascii six r W h0 h3).mono ?_)⟩
      · have : ∀ c : Fin 256, Lib.indexByte six.data.toList c.val.toUInt8 < 6 := by decide +kernel
        exact this ⟨r.toNat, by omega⟩
      · rintro e w' ⟨rfl, rfl⟩
        exact ⟨rfl, Below.refl _ _⟩
    · obtain ⟨n, rfl⟩ : ∃ n : Nat, r = n := ⟨_, (Int.toNat_of_nonneg h0).symm⟩
      by_cases h4 : n = 65533
      · subst h4
        exact ⟨-1, by decide, fun W => indexRune_fffd W⟩
      · exact ⟨-1, by decide, fun W => indexRune_wide n (by omega) (by omega) (by omega) h4 W⟩
  obtain ⟨i, hi, hI⟩ := hI
  unfold six at hI
  have HI := Lib.hid hI
  clear hI h0 h1 h2
  go_enter Tryz.func129, Tryz.ntmps129
  by_cases h0 : 0 ≤ i
  · obtain ⟨x, hx⟩ := six_ix i h0 hi
    go_wp2_with (go_at_call 155; refine (HI.out _).mono ?_; rintro e w' ⟨rfl, hb⟩)
    go_ret
    exact ⟨⟨_, rfl⟩, hb⟩
  · go_wp2_with (go_at_call 155; refine (HI.out _).mono ?_; rintro e w' ⟨rfl, hb⟩)
    go_ret
    exact ⟨⟨_, rfl⟩, hb⟩
/-- the character that is read is one that a text may hold. -/
theorem nx_rune {l : List UInt8} (h : 0 ≤ (nx l).2) : 0 ≤ (nx l).1 ∧ (nx l).1 ≤ 1114111 ∧ ((nx l).1 < 55296 ∨ 57343 < (nx l).1) := by
  by_cases hl : l = []
  · subst hl
    exact ⟨by decide, by decide, by decide⟩
  · unfold nx at h ⊢
    by_cases e : (Lib.decodeGo ⟨l.toArray⟩).1 = 65533 ∧ (Lib.decodeGo ⟨l.toArray⟩).2 = 1
    · simp only [if_pos e] at h
      omega
    · simp only [if_neg e]
      have hs : 0 < (⟨l.toArray⟩ : ByteArray).size := List.length_pos_iff.2 hl
      have hd : Lib.decodeGo ⟨l.toArray⟩ = Utf8.decode ⟨l.toArray⟩ 0 := by
        unfold Lib.decodeGo
        rw [if_neg (by omega)]
      rw [hd]
      by_cases h1 : ((⟨l.toArray⟩ : ByteArray)[0]'hs).toNat < 128
      · rw [decode_low _ 0 hs h1]
        simp only
        omega
      · have := (decode_wide ⟨l.toArray⟩ 0 hs (by omega)).2.2.1
        omega
end Go.Proofs.YteejjkfmmhegmaaGreatDoor
