/- word.Name: its contract; a name behind which more stands. Conditions: at most 2^24 bytes. -/
import Derived.Test.YteejjkfmmhegmaaGreatDoorLD
import Derived.Lib.TrimUEq
import Derived.Lib.MapLaws
namespace Go.Proofs.YteejjkfmmhegmaaGreatDoor
open Go.RowKit

theorem decodeN_grow (n m b0 b1 b2 b3 B1 B2 B3 : Nat) (h1 : 1 < n → B1 = b1) (h2 : 2 < n → B2 = b2) (h3 : 3 < n → B3 = b3) (hne : Lib.decodeN n b0 b1 b2 b3 ≠ (65533, 1)) (hm : n ≤ m) : Lib.decodeN m b0 B1 B2 B3 = Lib.decodeN n b0 b1 b2 b3 := by
  unfold Lib.decodeN at hne ⊢
  by_cases a : b0 < 128
  · rw [if_pos a, if_pos a]
  · rw [if_neg a, if_neg a]
    rw [if_neg a] at hne
    by_cases c2 : b0 / 32 = 6 ∧ (1 < n ∧ b1 / 64 = 2)
    · have e1 := h1 c2.2.1
      subst e1
      rw [if_pos c2, if_pos ⟨c2.1, by omega, c2.2.2⟩]
    · rw [if_neg c2] at hne ⊢
      by_cases c3 : b0 / 16 = 14 ∧ (1 < n ∧ b1 / 64 = 2) ∧ (2 < n ∧ b2 / 64 = 2)
      · have e1 := h1 c3.2.1.1
        have e2 := h2 c3.2.2.1
        subst e1
        subst e2
        rw [if_pos c3, if_neg (by omega), if_pos ⟨c3.1, ⟨by omega, c3.2.1.2⟩, by omega, c3.2.2.2⟩]
      · rw [if_neg c3] at hne ⊢
        by_cases c4 : b0 / 8 = 30 ∧ (1 < n ∧ b1 / 64 = 2) ∧ (2 < n ∧ b2 / 64 = 2) ∧ (3 < n ∧ b3 / 64 = 2)
        · have e1 := h1 c4.2.1.1
          have e2 := h2 c4.2.2.1.1
          have e3 := h3 c4.2.2.2.1
          subst e1
          subst e2
          subst e3
          rw [if_pos c4, if_neg (by omega), if_neg (by omega), if_pos ⟨c4.1, ⟨by omega, c4.2.1.2⟩, ⟨by omega, c4.2.2.1.2⟩, by omega, c4.2.2.2.2⟩]
        · rw [if_neg c4] at hne
          exact absurd rfl hne
theorem nx_decodeL {l : List UInt8} (hl : l ≠ []) : nx l = if (Lib.decodeL l).1 = 65533 ∧ (Lib.decodeL l).2 = 1 then (((0 : Int), (-1 : Int)) : Int × Int) else (((Lib.decodeL l).1 : Int), ((Lib.decodeL l).2 : Int)) := by
  have hd : Lib.decodeGo ⟨l.toArray⟩ = Lib.decodeL l := by
    unfold Lib.decodeGo Lib.decodeL
    rw [if_neg]
    show l.length ≠ 0
    exact fun e => hl (List.length_eq_zero_iff.1 e)
  unfold nx
  rw [hd]
theorem nx_app {l : List UInt8} (x : List UInt8) (h : 0 < (nx l).2) : nx (l ++ x) = nx l := by
  have hl : l ≠ [] := by
    rintro rfl
    exact absurd h (by decide)
  have hl2 : l ++ x ≠ [] := by simp [hl]
  rw [nx_decodeL hl] at h
  rw [nx_decodeL hl, nx_decodeL hl2]
  have hne : Lib.decodeL l ≠ (65533, 1) := by
    intro e
    rw [e, if_pos ⟨rfl, rfl⟩] at h
    exact absurd h (by decide)
  have e : Lib.decodeL (l ++ x) = Lib.decodeL l := by
    rw [Lib.decodeL_N] at hne
    rw [Lib.decodeL_N, Lib.decodeL_N]
    have hg : ∀ i, i < l.length → (l ++ x).getD i 0 = l.getD i 0 := fun i hi => by simp [List.getD, List.getElem?_append_left hi]
    have h0 : 0 < l.length := List.length_pos_iff.2 hl
    rw [hg 0 h0]
    exact decodeN_grow _ _ _ _ _ _ _ _ _ (fun h => by rw [hg 1 h]) (fun h => by rw [hg 2 h]) (fun h => by rw [hg 3 h]) hne (by simp)
  rw [e]
def nameOK (l : List UInt8) : Bool := decide (l ≠ [] ∧ nameL false l = l.length)
theorem partC_fffd : partC 65533 = false := by decide +kernel
theorem nx_at (s : ByteArray) (i : Nat) (h : i < s.size) : nx (s.data.toList.drop i) = if (Utf8.decode s i).1 = 65533 ∧ (Utf8.decode s i).2 = 1 then (((0 : Int), (-1 : Int)) : Int × Int) else (((Utf8.decode s i).1 : Int), ((Utf8.decode s i).2 : Int)) := by
  rw [nx_decodeL (by intro e; have := congrArg List.length e; rw [List.length_drop, ofl] at this; simp at this; omega), Lib.decodeL_drop]
set_option maxRecDepth 1000000 in
set_option maxHeartbeats 1000000 in
theorem wname_any (s : ByteArray) (w : World) (hs : s.size ≤ 16777216) :
    Calls Tryz.prog 46 #[.string s] w fun e w' => e = .returned (.bool (nameOK s.data.toList)) ∧ Below w.heap.size w w' := by
  obtain ⟨B, hB⟩ : ∃ B, nameOK s.data.toList = B := ⟨_, rfl⟩
  rw [hB]
  have HB := Lib.hid hB
  clear hB
  go_enter Tryz.func46, Tryz.ntmps46
  go_wp2_with fail
  go_loopw [2, 3, 4] (fun _ _ _ wx => ∃ i : Nat, i ≤ s.size ∧ wx.heap[w.heap.size]? = some (.stringIter s i) ∧ Below w.heap.size w wx ∧ w.heap.size < wx.heap.size ∧ partsL false s.data.toList = i + partsL false (s.data.toList.drop i) ∧ (0 < i → 0 < (nx s.data.toList).2 ∧ startC (nx s.data.toList).1 = true)) (fun _ _ _ wx => s.size - wx.iterPos w.heap.size)
  case atStart => exact ⟨0, by omega, World.iter_heap _ _ _, (Below.refl _ _).alloc (Nat.le_refl _) _, by show _ < (w.heap.push _).size; simp, by simp, fun h => absurd h (by omega)⟩
  case round =>
    obtain ⟨i, hi, hk, hb, hlt, hv, hst⟩ := hrel
    by_cases hlts : i < s.size
    · have hnx := fun ty => Lib.run_next_any_at (P := Tryz.prog) wr _ s i ty hk hlts
      have hna := nx_at s i hlts
      have hn1 : 1 ≤ (Utf8.decode s i).2 := Lib.width_pos s i
      have hnl : (Utf8.decode s i).2 ≤ s.size - i := by
        have := Lib.decodeL_le (s.data.toList.drop i) (by intro e; have := congrArg List.length e; rw [List.length_drop, ofl] at this; simp at this; omega)
        rw [Lib.decodeL_drop, List.length_drop, ofl] at this
        exact this
      have hrl := Lib.rune_le s i
      obtain ⟨⟨c, n⟩, hcn⟩ : ∃ p, Utf8.decode s i = p := ⟨_, rfl⟩
      rw [hcn] at hnx hna hn1 hnl hrl
      simp only at hnx hna hn1 hnl hrl
      clear hcn
      have hk2 := Lib.iterAt_heap wr _ s i (i + n) hk
      have hb2 : Below w.heap.size w (wr.iterAt w.heap.size s (i + n)) := Lib.below_iterAt hb (Nat.le_refl _) _ _
      have hl2 : w.heap.size < (wr.iterAt w.heap.size s (i + n)).heap.size := by rw [Lib.iterAt_size]; exact hlt
      generalize wr.iterAt w.heap.size s (i + n) = w2 at *
      have HK := Lib.hid hk2
      have HKr := Lib.hid hk
      have HNA := Lib.hid hna
      have HV := Lib.hid hv
      have HST := Lib.hid hst
      -- it does not go on
      have hstop : goesP false (s.data.toList.drop i) = false → B = false := fun hg => by
        rw [← HB.out]
        refine decide_eq_false (fun ⟨_, h⟩ => ?_)
        have h1 := HV.out
        rw [partsL_no hg] at h1
        unfold nameL at h
        rw [ofl] at h
        split at h
        · omega
        · omega
      have HSTOP := Lib.hid hstop
      clear hna hv hst hstop hk hk2 hb
      by_cases hc : c = 65533
      · have HW := Lib.hid (show B = false from HSTOP.out (by
          have hna := HNA.out
          unfold goesP
          by_cases hn : n = 1
          · rw [if_pos ⟨hc, hn⟩] at hna
            rw [hna]
            rfl
          · rw [if_neg (fun h => hn h.2)] at hna
            rw [hna]
            simp only [hc]
            rw [show partC ((65533 : Nat) : Int) = false from partC_fffd]
            simp))
        subst hc
        go_wp2_with fail
        go_ret
        exact ⟨by rw [HW.out]; rfl, hb2⟩
      · have bc : ((c : Int) == 65533) = false := by rw [beq_eq_false_iff_ne]; omega
        have hna := HNA.out
        rw [if_neg (fun h => hc h.1)] at hna
        have hP := fun W => part_any (c : Int) W
        cases hp : partC (c : Int) with
        | false =>
          rw [hp] at hP
          have HP := Lib.hid hP
          have HW := Lib.hid (show B = false from HSTOP.out (by unfold goesP; rw [hna]; simp only [hp]; simp))
          clear hP hp hna hc
          go_wp2_with (go_at_call 71; refine (HP.out _).mono ?_; rintro e w3 ⟨rfl, hb3⟩)
          go_ret
          exact ⟨by rw [HW.out]; rfl, hb2.trans (hb3.mono (by omega))⟩
        | true =>
          rw [hp] at hP
          have HP := Lib.hid hP
          have hgo : goesP false (s.data.toList.drop i) = true := by
            unfold goesP
            rw [hna]
            simp only [hp]
            simp
            omega
          have HN := Lib.hid (show partsL false s.data.toList = i + n + partsL false (s.data.toList.drop (i + n)) by
            rw [HV.out, partsL_yes hgo, hna, Int.toNat_natCast, List.drop_drop]
            omega)
          clear hP hp hgo
          by_cases hi0 : i = 0
          · have hS := fun W => start_any (c : Int) W
            cases hs1 : startC (c : Int) with
            | false =>
              rw [hs1] at hS
              have HS := Lib.hid hS
              have HW := Lib.hid (show B = false by
                rw [← HB.out]
                refine decide_eq_false (fun ⟨hne, h⟩ => ?_)
                rw [hi0, List.drop_zero] at hna
                unfold nameL at h
                rw [if_neg (by rw [hna]; simp only [hs1]; simp)] at h
                exact hne (List.length_eq_zero_iff.1 h.symm))
              clear hS hs1 hna hc
              subst hi0
              go_wp2_with (first | (go_at_call 71; refine (HP.out _).mono ?_; rintro e w3 ⟨rfl, hb3⟩) | (go_at_call 72; refine (HS.out _).mono ?_; rintro e w4 ⟨rfl, hb4⟩))
              go_ret
              exact ⟨by rw [HW.out]; rfl, hb2.trans ((bel_next hb3 hb4).mono (by omega))⟩
            | true =>
              rw [hs1] at hS
              have HS := Lib.hid hS
              have HZ := Lib.hid (show 0 < (nx s.data.toList).2 ∧ startC (nx s.data.toList).1 = true by
                rw [hi0, List.drop_zero] at hna
                rw [hna]
                exact ⟨by simp only; omega, hs1⟩)
              clear hS hs1 hna hc
              subst hi0
              go_wp2_with (first | (go_at_call 71; refine (HP.out _).mono ?_; rintro e w3 ⟨rfl, hb3⟩) | (go_at_call 72; refine (HS.out _).mono ?_; rintro e w4 ⟨rfl, hb4⟩))
              have hbb := bel_next hb3 hb4
              have hk3 : w4.heap[w.heap.size]? = some (.stringIter s (0 + n)) := (hbb.block _ hl2).trans HK.out
              go_roundw
              case rel => exact ⟨0 + n, by omega, hk3, hb2.trans (hbb.mono (by omega)), by have := hbb.size; omega, HN.out, fun _ => HZ.out⟩
              case measure => simp [World.iterPos, hk3, HKr.out]; omega
          · have bi : (((i : Nat) : Int) == 0) = false := by rw [beq_eq_false_iff_ne]; omega
            have HZ := Lib.hid (HST.out (by omega))
            clear hna hc
            go_wp2_with (go_at_call 71; refine (HP.out _).mono ?_; rintro e w3 ⟨rfl, hb3⟩)
            have hk3 : w3.heap[w.heap.size]? = some (.stringIter s (i + n)) := (hb3.block _ hl2).trans HK.out
            go_roundw
            case rel => exact ⟨i + n, by omega, hk3, hb2.trans (hb3.mono (by omega)), by have := hb3.size; omega, HN.out, fun _ => HZ.out⟩
            case measure => simp [World.iterPos, hk3, HKr.out]; omega
    · obtain rfl : i = s.size := by omega
      have hnx := fun ty => Lib.run_next_end_at (P := Tryz.prog) wr _ s s.size ty hk (by omega)
      by_cases hz : s.size = 0
      · have HW := Lib.hid (show B = false by rw [← HB.out]; exact decide_eq_false (fun h => h.1 (List.length_eq_zero_iff.1 (by rw [ofl]; exact hz))))
        have hem := isEmpty_zero hz
        clear hv hst hz
        go_wp2_with fail
        go_ret
        exact ⟨by rw [HW.out]; rfl, hb⟩
      · have hpos : 0 < s.size := by omega
        have HW := Lib.hid (show B = true by
          rw [← HB.out]
          refine decide_eq_true ⟨fun e => hz (by rw [← ofl, e]; rfl), ?_⟩
          unfold nameL
          rw [if_pos (hst hpos), hv, List.drop_of_length_le (by rw [ofl]; exact Nat.le_refl _), ofl]
          rfl)
        have hem := isEmpty_pos hpos
        clear hv hst hz
        go_wp2_with fail
        go_ret
        exact ⟨by rw [HW.out]; rfl, hb⟩
end Go.Proofs.YteejjkfmmhegmaaGreatDoor
