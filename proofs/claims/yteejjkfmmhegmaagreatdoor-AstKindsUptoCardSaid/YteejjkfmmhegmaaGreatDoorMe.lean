/- word.Name: its contract; a name behind which more stands. Conditions: at most 2^24 bytes. | Contracts of ast's small functions: super, none, kind, kids, ident; of word.Reserved at some words. No condition of size. | Contracts of ast.ident, own, expression, one, Check at Idents in Parens. Condition: at most 2^22 nodes. | Contracts of ast.own at a Paren, of expression at some kinds, of one and Check. Condition: at most 2^22 nodes. | Contract of platenlaw8's awake: it answers true. Condition: what a law leans on (Lx) is not wanted. -/
import Derived.Test.YteejjkfmmhegmaaGreatDoorLD
import Derived.Lib.TrimUEq
import Derived.Lib.MapLaws
import Derived.Test.YteejjkfmmhegmaaGreatDoorMd
namespace Go.Proofs.YteejjkfmmhegmaaGreatDoor
open Go.RowKit

theorem decodeN_grow (n m b0 b1 b2 b3 B1 B2 B3 : Nat) (h1 : 1 < n → B1 = b1) (h2 : 2 < n → B2 = b2) (h3 : 3 < n → B3 = b3) (hne : Lib.decodeN n b0 b1 b2 b3 ≠ (65533, 1)) (hm : n ≤ m) : Lib.decodeN m b0 B1 B2 B3 = Lib.decodeN n b0 b1 b2 b3 := by
  unfold Lib.decodeN at hne ⊢
  by_cases a : b0 < 128
  · rw [if_pos a, if_pos a]
  · rw [if_neg a, if_neg a]
    rw [if_neg a] at hne
    by_cases c2 : b0 / 32 = 6 ∧ (1 < n ∧ b1 / 64 = 2)
    · have e1 := h1 c2.2.1
      subst e1
      rw [if_pos c2, if_pos ⟨c2.1, by omega, c2.2.2⟩]
    · rw [if_neg c2] at hne ⊢
      by_cases c3 : b0 / 16 = 14 ∧ (1 < n ∧ b1 / 64 = 2) ∧ (2 < n ∧ b2 / 64 = 2)
      · have e1 := h1 c3.2.1.1
        have e2 := h2 c3.2.2.1
        subst e1
        subst e2
        rw [if_pos c3, if_neg (by omega), if_pos ⟨c3.1, ⟨by omega, c3.2.1.2⟩, by omega, c3.2.2.2⟩]
      · rw [if_neg c3] at hne ⊢
        by_cases c4 : b0 / 8 = 30 ∧ (1 < n ∧ b1 / 64 = 2) ∧ (2 < n ∧ b2 / 64 = 2) ∧ (3 < n ∧ b3 / 64 = 2)
        · have e1 := h1 c4.2.1.1
          have e2 := h2 c4.2.2.1.1
          have e3 := h3 c4.2.2.2.1
          subst e1
          subst e2
          subst e3
          rw [if_pos c4, if_neg (by omega), if_neg (by omega), if_pos ⟨c4.1, ⟨by omega, c4.2.1.2⟩, ⟨by omega, c4.2.2.1.2⟩, by omega, c4.2.2.2.2⟩]
        · rw [if_neg c4] at hne
          exact absurd rfl hne
theorem nx_decodeL {l : List UInt8} (hl : l ≠ []) : nx l = if (Lib.decodeL l).1 = 65533 ∧ (Lib.decodeL l).2 = 1 then (((0 : Int), (-1 : Int)) : Int × Int) else (((Lib.decodeL l).1 : Int), ((Lib.decodeL l).2 : Int)) := by
  have hd : Lib.decodeGo ⟨l.toArray⟩ = Lib.decodeL l := by
    unfold Lib.decodeGo Lib.decodeL
    rw [if_neg]
    show l.length ≠ 0
    exact fun e => hl (List.length_eq_zero_iff.1 e)
  unfold nx
  rw [hd]
theorem nx_app {l : List UInt8} (x : List UInt8) (h : 0 < (nx l).2) : nx (l ++ x) = nx l := by
  have hl : l ≠ [] := by
    rintro rfl
    exact absurd h (by decide)
  have hl2 : l ++ x ≠ [] := by simp [hl]
  rw [nx_decodeL hl] at h
  rw [nx_decodeL hl, nx_decodeL hl2]
  have hne : Lib.decodeL l ≠ (65533, 1) := by
    intro e
    rw [e, if_pos ⟨rfl, rfl⟩] at h
    exact absurd h (by decide)
  have e : Lib.decodeL (l ++ x) = Lib.decodeL l := by
    rw [Lib.decodeL_N] at hne
    rw [Lib.decodeL_N, Lib.decodeL_N]
    have hg : ∀ i, i < l.length → (l ++ x).getD i 0 = l.getD i 0 := fun i hi => by simp [List.getD, List.getElem?_append_left hi]
    have h0 : 0 < l.length := List.length_pos_iff.2 hl
    rw [hg 0 h0]
    exact decodeN_grow _ _ _ _ _ _ _ _ _ (fun h => by rw [hg 1 h]) (fun h => by rw [hg 2 h]) (fun h => by rw [hg 3 h]) hne (by simp)
  rw [e]
def nameOK (l : List UInt8) : Bool := decide (l ≠ [] ∧ nameL false l = l.length)
theorem partC_fffd : partC 65533 = false := by decide +kernel
theorem nx_at (s : ByteArray) (i : Nat) (h : i < s.size) : nx (s.data.toList.drop i) = if (Utf8.decode s i).1 = 65533 ∧ (Utf8.decode s i).2 = 1 then (((0 : Int), (-1 : Int)) : Int × Int) else (((Utf8.decode s i).1 : Int), ((Utf8.decode s i).2 : Int)) := by
  rw [nx_decodeL (by intro e; have := congrArg List.length e; rw [List.length_drop, ofl] at this; simp at this; omega), Lib.decodeL_drop]
set_option maxRecDepth 1000000 in
set_option maxHeartbeats 1000000 in
theorem wname_any (s : ByteArray) (w : World) (hs : s.size ≤ 16777216) :
    Calls Tryz.prog 46 #[.string s] w fun e w' => e = .returned (.bool (nameOK s.data.toList)) ∧ Below w.heap.size w w' := by
  obtain ⟨B, hB⟩ : ∃ B, nameOK s.data.toList = B := ⟨_, rfl⟩
  rw [hB]
  have HB := Lib.hid hB
  clear hB
  go_enter Tryz.func46, Tryz.ntmps46
  go_wp2_with fail
  go_loopw [2, 3, 4] (fun _ _ _ wx => ∃ i : Nat, i ≤ s.size ∧ wx.heap[w.heap.size]? = some (.stringIter s i) ∧ Below w.heap.size w wx ∧ w.heap.size < wx.heap.size ∧ partsL false s.data.toList = i + partsL false (s.data.toList.drop i) ∧ (0 < i → 0 < (nx s.data.toList).2 ∧ startC (nx s.data.toList).1 = true)) (fun _ _ _ wx => s.size - wx.iterPos w.heap.size)
  case atStart => exact ⟨0, by omega, World.iter_heap _ _ _, (Below.refl _ _).alloc (Nat.le_refl _) _, by show _ < (w.heap.push _).size; simp, by simp, fun h => absurd h (by omega)⟩
  case round =>
    obtain ⟨i, hi, hk, hb, hlt, hv, hst⟩ := hrel
    by_cases hlts : i < s.size
    · have hnx := fun ty => Lib.run_next_any_at (P := Tryz.prog) wr _ s i ty hk hlts
      have hna := nx_at s i hlts
      have hn1 : 1 ≤ (Utf8.decode s i).2 := Lib.width_pos s i
      have hnl : (Utf8.decode s i).2 ≤ s.size - i := by
        have := Lib.decodeL_le (s.data.toList.drop i) (by intro e; have := congrArg List.length e; rw [List.length_drop, ofl] at this; simp at this; omega)
        rw [Lib.decodeL_drop, List.length_drop, ofl] at this
        exact this
      have hrl := Lib.rune_le s i
      obtain ⟨⟨c, n⟩, hcn⟩ : ∃ p, Utf8.decode s i = p := ⟨_, rfl⟩
      rw [hcn] at hnx hna hn1 hnl hrl
      simp only at hnx hna hn1 hnl hrl
      clear hcn
      have hk2 := Lib.iterAt_heap wr _ s i (i + n) hk
      have hb2 : Below w.heap.size w (wr.iterAt w.heap.size s (i + n)) := Lib.below_iterAt hb (Nat.le_refl _) _ _
      have hl2 : w.heap.size < (wr.iterAt w.heap.size s (i + n)).heap.size := by rw [Lib.iterAt_size]; exact hlt
      generalize wr.iterAt w.heap.size s (i + n) = w2 at *
      have HK := Lib.hid hk2
      have HKr := Lib.hid hk
      have HNA := Lib.hid hna
      have HV := Lib.hid hv
      have HST := Lib.hid hst
      -- it does not go on
      have hstop : goesP false (s.data.toList.drop i) = false → B = false := fun hg => by
        rw [← HB.out]
        refine decide_eq_false (fun ⟨_, h⟩ => ?_)
        have h1 := HV.out
        rw [partsL_no hg] at h1
        unfold nameL at h
        rw [ofl] at h
        split at h
        · omega
        · omega
      have HSTOP := Lib.hid hstop
      clear hna hv hst hstop hk hk2 hb
      by_cases hc : c = 65533
      · have HW := Lib.hid (show B = false from HSTOP.out (by
          have hna := HNA.out
          unfold goesP
          by_cases hn : n = 1
          · rw [if_pos ⟨hc, hn⟩] at hna
            rw [hna]
            rfl
          · rw [if_neg (fun h => hn h.2)] at hna
            rw [hna]
            simp only [hc]
            rw [show partC ((65533 : Nat) : Int) = false from partC_fffd]
            simp))
        subst hc
        go_wp2_with fail
        go_ret
        exact ⟨by rw [HW.out]; rfl, hb2⟩
      · have bc : ((c : Int) == 65533) = false := by rw [beq_eq_false_iff_ne]; omega
        have hna := HNA.out
        rw [if_neg (fun h => hc h.1)] at hna
        have hP := fun W => part_any (c : Int) W
        cases hp : partC (c : Int) with
        | false =>
          rw [hp] at hP
          have HP := Lib.hid hP
          have HW := Lib.hid (show B = false from HSTOP.out (by unfold goesP; rw [hna]; simp only [hp]; simp))
          clear hP hp hna hc
          go_wp2_with (go_at_call 71; refine (HP.out _).mono ?_; rintro e w3 ⟨rfl, hb3⟩)
          go_ret
          exact ⟨by rw [HW.out]; rfl, hb2.trans (hb3.mono (by omega))⟩
        | true =>
          rw [hp] at hP
          have HP := Lib.hid hP
          have hgo : goesP false (s.data.toList.drop i) = true := by
            unfold goesP
            rw [hna]
            simp only [hp]
            simp
            omega
          have HN := Lib.hid (show partsL false s.data.toList = i + n + partsL false (s.data.toList.drop (i + n)) by
            rw [HV.out, partsL_yes hgo, hna, Int.toNat_natCast, List.drop_drop]
            omega)
          clear hP hp hgo
          by_cases hi0 : i = 0
          · have hS := fun W => start_any (c : Int) W
            cases hs1 : startC (c : Int) with
            | false =>
              rw [hs1] at hS
              have HS := Lib.hid hS
              have HW := Lib.hid (show B = false by
                rw [← HB.out]
                refine decide_eq_false (fun ⟨hne, h⟩ => ?_)
                rw [hi0, List.drop_zero] at hna
                unfold nameL at h
                rw [if_neg (by rw [hna]; simp only [hs1]; simp)] at h
                exact hne (List.length_eq_zero_iff.1 h.symm))
              clear hS hs1 hna hc
              subst hi0
              go_wp2_with (first | (go_at_call 71; refine (HP.out _).mono ?_; rintro e w3 ⟨rfl, hb3⟩) | (go_at_call 72; refine (HS.out _).mono ?_; rintro e w4 ⟨rfl, hb4⟩))
              go_ret
              exact ⟨by rw [HW.out]; rfl, hb2.trans ((bel_next hb3 hb4).mono (by omega))⟩
            | true =>
              rw [hs1] at hS
              have HS := Lib.hid hS
              have HZ := Lib.hid (show 0 < (nx s.data.toList).2 ∧ startC (nx s.data.toList).1 = true by
                rw [hi0, List.drop_zero] at hna
                rw [hna]
                exact ⟨by simp only; omega, hs1⟩)
              clear hS hs1 hna hc
              subst hi0
              go_wp2_with (first | (go_at_call 71; refine (HP.out _).mono ?_; rintro e w3 ⟨rfl, hb3⟩) | (go_at_call 72; refine (HS.out _).mono ?_; rintro e w4 ⟨rfl, hb4⟩))
              have hbb := bel_next hb3 hb4
              have hk3 : w4.heap[w.heap.size]? = some (.stringIter s (0 + n)) := (hbb.block _ hl2).trans HK.out
              go_roundw
              case rel => exact ⟨0 + n, by omega, hk3, hb2.trans (hbb.mono (by omega)), by have := hbb.size; omega, HN.out, fun _ => HZ.out⟩
              case measure => simp [World.iterPos, hk3, HKr.out]; omega
          · have bi : (((i : Nat) : Int) == 0) = false := by rw [beq_eq_false_iff_ne]; omega
            have HZ := Lib.hid (HST.out (by omega))
            clear hna hc
            go_wp2_with (go_at_call 71; refine (HP.out _).mono ?_; rintro e w3 ⟨rfl, hb3⟩)
            have hk3 : w3.heap[w.heap.size]? = some (.stringIter s (i + n)) := (hb3.block _ hl2).trans HK.out
            go_roundw
            case rel => exact ⟨i + n, by omega, hk3, hb2.trans (hb3.mono (by omega)), by have := hb3.size; omega, HN.out, fun _ => HZ.out⟩
            case measure => simp [World.iterPos, hk3, HKr.out]; omega
    · obtain rfl : i = s.size := by omega
      have hnx := fun ty => Lib.run_next_end_at (P := Tryz.prog) wr _ s s.size ty hk (by omega)
      by_cases hz : s.size = 0
      · have HW := Lib.hid (show B = false by rw [← HB.out]; exact decide_eq_false (fun h => h.1 (List.length_eq_zero_iff.1 (by rw [ofl]; exact hz))))
        have hem := isEmpty_zero hz
        clear hv hst hz
        go_wp2_with fail
        go_ret
        exact ⟨by rw [HW.out]; rfl, hb⟩
      · have hpos : 0 < s.size := by omega
        have HW := Lib.hid (show B = true by
          rw [← HB.out]
          refine decide_eq_true ⟨fun e => hz (by rw [← ofl, e]; rfl), ?_⟩
          unfold nameL
          rw [if_pos (hst hpos), hv, List.drop_of_length_le (by rw [ofl]; exact Nat.le_refl _), ofl]
          rfl)
        have hem := isEmpty_pos hpos
        clear hv hst hz
        go_wp2_with fail
        go_ret
        exact ⟨by rw [HW.out]; rfl, hb⟩
end Go.Proofs.YteejjkfmmhegmaaGreatDoor
namespace Go.Proofs.YteejjkfmmhegmaaGreatDoor
open Go.RowKit

theorem NdC.facts {w : World} {L B : Nat} {n : Nd} {g o : Nat} (h : NdC w L B n g o) (hB : B ≤ w.heap.size) : ∃ b cap, g < w.heap.size ∧ w.cell? ⟨g, o, none⟩ = some (.int .i64 n.kind) ∧ w.cell? ⟨g, o + 1, none⟩ = some (.string n.text) ∧
      w.cell? ⟨g, o + 2, none⟩ = some (.slice b n.kids.length cap) ∧ w.cell? ⟨g, o + 3, none⟩ = some (.int .i64 n.from') ∧ w.cell? ⟨g, o + 4, none⟩ = some (.int .i64 n.till) ∧ n.kids.length ≤ cap ∧ RowP w L B n.kids b 0 := by
  rw [NdC_eq] at h
  obtain ⟨b, cap, _, h3, c0, c1, c2, c3, c4, hc, hr⟩ := h
  exact ⟨b, cap, by omega, c0, c1, c2, c3, c4, hc, hr⟩
theorem reserved_RA (w : World) : Calls Tryz.prog 69 #[.string ⟨#[97]⟩, .bool false] w fun e w' => e = .returned (.bool false) ∧ w = w' := by
  go_enter Tryz.func69, Tryz.ntmps69
  go_wp2
  go_ret
  exact ⟨rfl, rfl⟩
theorem reserved_RLet (w : World) : Calls Tryz.prog 69 #[.string ⟨#[108, 101, 116]⟩, .bool false] w fun e w' => e = .returned (.bool true) ∧ w = w' := by
  go_enter Tryz.func69, Tryz.ntmps69
  go_wp2
  go_ret
  exact ⟨rfl, rfl⟩
theorem reserved_RAwait (w : World) : Calls Tryz.prog 69 #[.string ⟨#[97, 119, 97, 105, 116]⟩, .bool false] w fun e w' => e = .returned (.bool false) ∧ w = w' := by
  go_enter Tryz.func69, Tryz.ntmps69
  go_wp2
  go_ret
  exact ⟨rfl, rfl⟩
theorem reserved_RThis (w : World) : Calls Tryz.prog 69 #[.string ⟨#[116, 104, 105, 115]⟩, .bool false] w fun e w' => e = .returned (.bool true) ∧ w = w' := by
  go_enter Tryz.func69, Tryz.ntmps69
  go_wp2
  go_ret
  exact ⟨rfl, rfl⟩
theorem reserved_RSuper (w : World) : Calls Tryz.prog 69 #[.string ⟨#[115, 117, 112, 101, 114]⟩, .bool false] w fun e w' => e = .returned (.bool true) ∧ w = w' := by
  go_enter Tryz.func69, Tryz.ntmps69
  go_wp2
  go_ret
  exact ⟨rfl, rfl⟩
theorem reserved_RUndef (w : World) : Calls Tryz.prog 69 #[.string ⟨#[117, 110, 100, 101, 102, 105, 110, 101, 100]⟩, .bool false] w fun e w' => e = .returned (.bool false) ∧ w = w' := by
  go_enter Tryz.func69, Tryz.ntmps69
  go_wp2
  go_ret
  exact ⟨rfl, rfl⟩
theorem num_any (n : Int) (w : World) : Calls Tryz.prog 20 #[.int .i64 n] w fun e w' => e = .returned (.int .i64 n) ∧ w = w' := by
  go_enter Tryz.func20, Tryz.ntmps20
  go_wp2
  go_ret
  exact ⟨rfl, rfl⟩
/-- not the word super. -/
theorem super_no (n : Nd) (g o L B : Nat) (w : World) (hn : NdC w L B n g o) (hB : B ≤ w.heap.size) (hk : n.kind ≠ 6) :
    Calls Tryz.prog 35 #[.pointer (some ⟨g, o, none⟩)] w fun e w' => e = .returned (.bool false) ∧ w = w' := by
  obtain ⟨b, cap, hg, c0, c1, c2, c3, c4, hc, hr⟩ := hn.facts hB
  have e1 : (n.kind == 6) = false := by rw [beq_eq_false_iff_ne]; exact hk
  clear hr hk hn
  go_enter Tryz.func35, Tryz.ntmps35
  go_wp2_with fail
  go_ret
  exact ⟨rfl, rfl⟩
/-- no rules: no kids. -/
theorem kids_none (n : Nd) (g o L B : Nat) (w : World) (hn : NdC w L B n g o) (hB : B ≤ w.heap.size) :
    Calls Tryz.prog 44 #[.pointer (some ⟨g, o, none⟩), .slice none 0 0] w fun e w' => e = .returned (.bool (decide (n.kids.length = 0))) ∧ w = w' := by
  obtain ⟨b, cap, hg, c0, c1, c2, c3, c4, hc, hr⟩ := hn.facts hB
  clear hr hn
  by_cases h0 : n.kids.length = 0
  · have HD := Lib.hid (decide_eq_true h0)
    have e1 : (((n.kids.length : Nat) : Int) != 0) = false := by rw [h0]; rfl
    clear h0
    go_enter Tryz.func44, Tryz.ntmps44
    go_wp2_with fail
    go_loopw [17] (fun i wr => i = .int .i64 0 ∧ wr = w) (fun _ _ => 0)
    case atStart => exact ⟨rfl, rfl⟩
    case round =>
      obtain ⟨rfl, rfl⟩ := hrel
      go_wp2_with fail
      go_ret
      exact ⟨by rw [HD.out]; rfl, rfl⟩
  · have e1 : (((n.kids.length : Nat) : Int) != 0) = true := by rw [bne_iff_ne]; omega
    have HD := Lib.hid (decide_eq_false h0)
    clear h0
    go_enter Tryz.func44, Tryz.ntmps44
    go_wp2_with fail
    go_ret
    exact ⟨by rw [HD.out]; rfl, rfl⟩
/-- the rule expression, asked of one kid. -/
theorem kids_one (n : Nd) (g o L B r : Nat) (w : World) (hn : NdC w L B n g o) (hB : B ≤ w.heap.size) (h1 : n.kids.length = 1) (hr0 : w.cell? ⟨r, 0, none⟩ = some (.func (.func 30) #[] #[])) (hrl : r < w.heap.size) (v : Bool)
    (hex : ∀ g2 o2, NdC w L B (n.kids[0]'(by omega)) g2 o2 → Calls Tryz.prog 30 #[.pointer (some ⟨g2, o2, none⟩)] w fun e w' => e = .returned (.bool v) ∧ Below w.heap.size w w') :
    Calls Tryz.prog 44 #[.pointer (some ⟨g, o, none⟩), .slice (some ⟨r, 0, none⟩) 1 1] w fun e w' => e = .returned (.bool v) ∧ Below w.heap.size w w' := by
  obtain ⟨b, cap, hg, c0, c1, c2, c3, c4, hc, hr⟩ := hn.facts hB
  have h0 : 0 < n.kids.length := by omega
  obtain ⟨g2, off, rfl, hg2, hkn⟩ := kidC hr 0 h0
  have HEX := Lib.hid (hex g2 (off + 0 * 5) hkn)
  rw [h1] at c2
  clear hr hn hex hkn h1 h0 hc
  cases v with
  | true =>
    go_enter Tryz.func44, Tryz.ntmps44
    go_wp2_with fail
    go_loopw [17] (fun i wr => (i = .int .i64 0 ∧ wr = w) ∨ (i = .int .i64 1 ∧ Below w.heap.size w wr)) (fun i _ => 1 - (intOf i).toNat)
    case atStart => exact .inl ⟨rfl, rfl⟩
    case round =>
      rcases hrel with ⟨rfl, rfl⟩ | ⟨rfl, hb⟩
      · go_wp2_with (go_at_call 30; refine HEX.out.mono ?_; rintro e w2 ⟨rfl, hb2⟩)
        go_roundw
        case rel => exact .inr ⟨by go_num, hb2⟩
        case measure => simp [intOf]
      · have HB := Lib.hid hb
        clear hb
        go_wp2_with fail
        go_ret
        exact ⟨rfl, HB.out⟩
  | false =>
    go_enter Tryz.func44, Tryz.ntmps44
    go_wp2_with fail
    go_loopw [17] (fun i wr => i = .int .i64 0 ∧ wr = w) (fun _ _ => 0)
    case atStart => exact ⟨rfl, rfl⟩
    case round =>
      obtain ⟨rfl, rfl⟩ := hrel
      go_wp2_with (go_at_call 30; refine HEX.out.mono ?_; rintro e w2 ⟨rfl, hb2⟩)
      go_ret
      exact ⟨rfl, hb2⟩
/-- kind makes a rule. -/
theorem kind_any (g m c : Nat) (w : World) : Calls Tryz.prog 34 #[.slice (some ⟨g, 0, none⟩) m c] w fun e w' => e = .returned (.func (.func 38) #[] #[.pointer (some ⟨w.heap.size, 0, none⟩)]) ∧ w' = w.alloc (.cells #[.slice (some ⟨g, 0, none⟩) m c] 39) := by
  go_enter Tryz.func34, Tryz.ntmps34
  go_wp2
  go_ret
  exact ⟨rfl, rfl⟩
/-- another kind than the only one of a rule. -/
theorem contains_no (g : Nat) (x y : Int) (w : World) (hg : g < w.heap.size) (hc : w.cell? ⟨g, 0, none⟩ = some (.int .i64 x)) (hne : y ≠ x) :
    Calls Tryz.prog 39 #[.slice (some ⟨g, 0, none⟩) 1 1, .int .i64 y] w fun e w' => e = .returned (.bool false) ∧ w = w' := by
  have e1 : (y == x) = false := by rw [beq_eq_false_iff_ne]; exact hne
  clear hne
  have hI : Calls Tryz.prog 65 #[.slice (some ⟨g, 0, none⟩) 1 1, .int .i64 y] w fun e w' => e = .returned (.int .i64 (-1)) ∧ w = w' := by
    go_enter Tryz.func65, Tryz.ntmps65
    go_wp2_with fail
    go_loopw [8] (fun i wr => (i = .int .i64 0 ∧ wr = w) ∨ (i = .int .i64 1 ∧ wr = w)) (fun i _ => 1 - (intOf i).toNat)
    case atStart => exact .inl ⟨rfl, rfl⟩
    case round =>
      rcases hrel with ⟨rfl, rfl⟩ | ⟨rfl, rfl⟩
      · go_wp2_with fail
        go_roundw
        case rel => exact .inr ⟨by go_num, by trivial⟩
        case measure => simp [intOf]
      · go_wp2_with fail
        go_ret
        exact ⟨rfl, rfl⟩
  have HI := Lib.hid hI
  clear hI e1
  go_enter Tryz.func39, Tryz.ntmps39
  go_wp2_with (go_at_call 65; refine HI.out.mono ?_; rintro e w2 ⟨rfl, rfl⟩)
  go_ret
  exact ⟨rfl, rfl⟩
end Go.Proofs.YteejjkfmmhegmaaGreatDoor
namespace Go.Proofs.YteejjkfmmhegmaaGreatDoor
open Go.RowKit

theorem ident_of (s : ByteArray) (v r : Bool) (w : World) (hs : s.size ≤ 16777216) (hv : nameOK s.data.toList = v) (hr : ∀ w, Calls Tryz.prog 69 #[.string s, .bool false] w fun e w' => e = .returned (.bool r) ∧ w = w') :
    Calls Tryz.prog 43 #[.string s] w fun e w' => e = .returned (.bool (v && !r)) ∧ Below w.heap.size w w' := by
  have HN := Lib.hid (wname_any s w hs)
  rw [hv] at HN
  have HR := Lib.hid hr
  clear hr hv hs
  cases v with
  | false =>
    go_enter Tryz.func43, Tryz.ntmps43
    go_wp2_with (go_at_call 46; refine HN.out.mono ?_; rintro e w2 ⟨rfl, hb2⟩)
    go_ret
    exact ⟨rfl, hb2⟩
  | true =>
    cases r with
    | false =>
      go_enter Tryz.func43, Tryz.ntmps43
      go_wp2_with (first | (go_at_call 46; refine HN.out.mono ?_; rintro e w2 ⟨rfl, hb2⟩) | (go_at_call 69; refine (HR.out _).mono ?_; rintro e w2 ⟨rfl, rfl⟩))
      go_ret
      exact ⟨rfl, hb2⟩
    | true =>
      go_enter Tryz.func43, Tryz.ntmps43
      go_wp2_with (first | (go_at_call 46; refine HN.out.mono ?_; rintro e w2 ⟨rfl, hb2⟩) | (go_at_call 69; refine (HR.out _).mono ?_; rintro e w2 ⟨rfl, rfl⟩))
      go_ret
      exact ⟨rfl, hb2⟩
set_option maxRecDepth 100000 in
set_option maxHeartbeats 2000000 in
theorem own_ident (n : Nd) (g o L B : Nat) (w : World) (v : Bool) (hn : NdC w L B n g o) (hB : B ≤ w.heap.size) (hk : n.kind = 1) (h0 : n.kids.length = 0)
    (hid : ∀ w, Calls Tryz.prog 43 #[.string n.text] w fun e w' => e = .returned (.bool v) ∧ Below w.heap.size w w') :
    Calls Tryz.prog 36 #[.pointer (some ⟨g, o, none⟩)] w fun e w' => e = .returned (.bool v) ∧ Below w.heap.size w w' := by
  obtain ⟨b, cap, hg, c0, c1, c2, c3, c4, hc, hr⟩ := hn.facts hB
  have HK := Lib.hid hk
  have HN := Lib.hid hn
  have HI := Lib.hid hid
  have HD := Lib.hid (decide_eq_true h0)
  clear hn hr hid hk h0 hc
  go_enter Tryz.func36, Tryz.ntmps36
  go_upto_region 3 with (go_at_call 34; refine (kind_any _ _ _ _).mono ?_; rintro e w2 ⟨rfl, rfl⟩)
  have hb4 : Below w.heap.size w ((((w.alloc (.cells #[.int .i64 58] 3)).alloc (.cells #[.slice (some ⟨w.heap.size, 0, none⟩) 1 1] 39)).alloc (.cells #[.int .i64 1] 3)).alloc (.cells #[.slice (some ⟨w.heap.size + 1 + 1, 0, none⟩) 1 1] 39)) := (((alloc_bel w _).alloc (by simp) _).alloc (by simp <;> omega) _).alloc (by simp <;> omega) _
  generalize ((((w.alloc (.cells #[.int .i64 58] 3)).alloc (.cells #[.slice (some ⟨w.heap.size, 0, none⟩) 1 1] 39)).alloc (.cells #[.int .i64 1] 3)).alloc (.cells #[.slice (some ⟨w.heap.size + 1 + 1, 0, none⟩) 1 1] 39)) = w4 at *
  have HB4 := Lib.hid hb4
  have hn4 := NdC_bel HN.out (hb4.mono hB)
  have hB4 := Nat.le_trans hB hb4.size
  clear c0 c1 c2 c3 c4 hb4 hg
  obtain ⟨b2, cap2, hg, c0, c1, c2, c3, c4, _, _⟩ := hn4.facts hB4
  rw [HK.out] at c0
  clear hn4
  go_wp2_with fail
  refine (HI.out _).mono ?_
  rintro e w5 ⟨rfl, hb5⟩
  have HB5 := Lib.hid (bel_next HB4.out hb5)
  have HKN := Lib.hid (kids_none n g o L B w5 (NdC_bel HN.out (HB5.out.mono hB)) (Nat.le_trans hB HB5.out.size))
  rw [HD.out] at HKN
  clear hb5 c0 c1 c2 c3 c4 hg
  cases v with
  | true =>
    go_wp2_with (go_at_call 44; refine HKN.out.mono ?_; rintro e w6 ⟨rfl, rfl⟩)
    go_ret
    exact ⟨rfl, HB5.out⟩
  | false =>
    go_wp2_with fail
    go_ret
    exact ⟨rfl, HB5.out⟩
end Go.Proofs.YteejjkfmmhegmaaGreatDoor
namespace Go.Proofs.YteejjkfmmhegmaaGreatDoor
open Go.RowKit

set_option maxRecDepth 100000 in
set_option maxHeartbeats 2000000 in
theorem expr_1 (n : Nd) (g o L B : Nat) (w : World) (v : Bool) (hn : NdC w L B n g o) (hB : B ≤ w.heap.size) (hk : n.kind = 1)
    (how : Calls Tryz.prog 36 #[.pointer (some ⟨g, o, none⟩)] w fun e w' => e = .returned (.bool v) ∧ Below w.heap.size w w') :
    Calls Tryz.prog 30 #[.pointer (some ⟨g, o, none⟩)] w fun e w' => e = .returned (.bool v) ∧ Below w.heap.size w w' := by
  obtain ⟨b, cap, hg, c0, c1, c2, c3, c4, hc, hr⟩ := hn.facts hB
  have HS := Lib.hid (super_no n g o L B w hn hB (by rw [hk]; decide))
  rw [hk] at c0
  have HO := Lib.hid how
  clear hn hr how hk hc c1 c2 c3 c4
  go_enter Tryz.func30, Tryz.ntmps30
  go_wp2_with (first | (go_at_call 35; refine HS.out.mono ?_; rintro e w2 ⟨rfl, rfl⟩) | (go_at_call 36; refine HO.out.mono ?_; rintro e w2 ⟨rfl, hb2⟩))
  go_ret
  exact ⟨rfl, hb2⟩
set_option maxRecDepth 100000 in
set_option maxHeartbeats 2000000 in
theorem expr_3 (n : Nd) (g o L B : Nat) (w : World) (v : Bool) (hn : NdC w L B n g o) (hB : B ≤ w.heap.size) (hk : n.kind = 3)
    (how : Calls Tryz.prog 36 #[.pointer (some ⟨g, o, none⟩)] w fun e w' => e = .returned (.bool v) ∧ Below w.heap.size w w') :
    Calls Tryz.prog 30 #[.pointer (some ⟨g, o, none⟩)] w fun e w' => e = .returned (.bool v) ∧ Below w.heap.size w w' := by
  obtain ⟨b, cap, hg, c0, c1, c2, c3, c4, hc, hr⟩ := hn.facts hB
  have HS := Lib.hid (super_no n g o L B w hn hB (by rw [hk]; decide))
  rw [hk] at c0
  have HO := Lib.hid how
  clear hn hr how hk hc c1 c2 c3 c4
  go_enter Tryz.func30, Tryz.ntmps30
  go_wp2_with (first | (go_at_call 35; refine HS.out.mono ?_; rintro e w2 ⟨rfl, rfl⟩) | (go_at_call 36; refine HO.out.mono ?_; rintro e w2 ⟨rfl, hb2⟩))
  go_ret
  exact ⟨rfl, hb2⟩
set_option maxRecDepth 100000 in
set_option maxHeartbeats 2000000 in
theorem expr_4 (n : Nd) (g o L B : Nat) (w : World) (v : Bool) (hn : NdC w L B n g o) (hB : B ≤ w.heap.size) (hk : n.kind = 4)
    (how : Calls Tryz.prog 36 #[.pointer (some ⟨g, o, none⟩)] w fun e w' => e = .returned (.bool v) ∧ Below w.heap.size w w') :
    Calls Tryz.prog 30 #[.pointer (some ⟨g, o, none⟩)] w fun e w' => e = .returned (.bool v) ∧ Below w.heap.size w w' := by
  obtain ⟨b, cap, hg, c0, c1, c2, c3, c4, hc, hr⟩ := hn.facts hB
  have HS := Lib.hid (super_no n g o L B w hn hB (by rw [hk]; decide))
  rw [hk] at c0
  have HO := Lib.hid how
  clear hn hr how hk hc c1 c2 c3 c4
  go_enter Tryz.func30, Tryz.ntmps30
  go_wp2_with (first | (go_at_call 35; refine HS.out.mono ?_; rintro e w2 ⟨rfl, rfl⟩) | (go_at_call 36; refine HO.out.mono ?_; rintro e w2 ⟨rfl, hb2⟩))
  go_ret
  exact ⟨rfl, hb2⟩
set_option maxRecDepth 100000 in
set_option maxHeartbeats 2000000 in
theorem expr_5 (n : Nd) (g o L B : Nat) (w : World) (v : Bool) (hn : NdC w L B n g o) (hB : B ≤ w.heap.size) (hk : n.kind = 5)
    (how : Calls Tryz.prog 36 #[.pointer (some ⟨g, o, none⟩)] w fun e w' => e = .returned (.bool v) ∧ Below w.heap.size w w') :
    Calls Tryz.prog 30 #[.pointer (some ⟨g, o, none⟩)] w fun e w' => e = .returned (.bool v) ∧ Below w.heap.size w w' := by
  obtain ⟨b, cap, hg, c0, c1, c2, c3, c4, hc, hr⟩ := hn.facts hB
  have HS := Lib.hid (super_no n g o L B w hn hB (by rw [hk]; decide))
  rw [hk] at c0
  have HO := Lib.hid how
  clear hn hr how hk hc c1 c2 c3 c4
  go_enter Tryz.func30, Tryz.ntmps30
  go_wp2_with (first | (go_at_call 35; refine HS.out.mono ?_; rintro e w2 ⟨rfl, rfl⟩) | (go_at_call 36; refine HO.out.mono ?_; rintro e w2 ⟨rfl, hb2⟩))
  go_ret
  exact ⟨rfl, hb2⟩
set_option maxRecDepth 100000 in
set_option maxHeartbeats 2000000 in
theorem expr_7 (n : Nd) (g o L B : Nat) (w : World) (v : Bool) (hn : NdC w L B n g o) (hB : B ≤ w.heap.size) (hk : n.kind = 7)
    (how : Calls Tryz.prog 36 #[.pointer (some ⟨g, o, none⟩)] w fun e w' => e = .returned (.bool v) ∧ Below w.heap.size w w') :
    Calls Tryz.prog 30 #[.pointer (some ⟨g, o, none⟩)] w fun e w' => e = .returned (.bool v) ∧ Below w.heap.size w w' := by
  obtain ⟨b, cap, hg, c0, c1, c2, c3, c4, hc, hr⟩ := hn.facts hB
  have HS := Lib.hid (super_no n g o L B w hn hB (by rw [hk]; decide))
  rw [hk] at c0
  have HO := Lib.hid how
  clear hn hr how hk hc c1 c2 c3 c4
  go_enter Tryz.func30, Tryz.ntmps30
  go_wp2_with (first | (go_at_call 35; refine HS.out.mono ?_; rintro e w2 ⟨rfl, rfl⟩) | (go_at_call 36; refine HO.out.mono ?_; rintro e w2 ⟨rfl, hb2⟩))
  go_ret
  exact ⟨rfl, hb2⟩
set_option maxRecDepth 100000 in
set_option maxHeartbeats 2000000 in
theorem expr_26 (n : Nd) (g o L B : Nat) (w : World) (v : Bool) (hn : NdC w L B n g o) (hB : B ≤ w.heap.size) (hk : n.kind = 26)
    (how : Calls Tryz.prog 36 #[.pointer (some ⟨g, o, none⟩)] w fun e w' => e = .returned (.bool v) ∧ Below w.heap.size w w') :
    Calls Tryz.prog 30 #[.pointer (some ⟨g, o, none⟩)] w fun e w' => e = .returned (.bool v) ∧ Below w.heap.size w w' := by
  obtain ⟨b, cap, hg, c0, c1, c2, c3, c4, hc, hr⟩ := hn.facts hB
  have HS := Lib.hid (super_no n g o L B w hn hB (by rw [hk]; decide))
  rw [hk] at c0
  have HO := Lib.hid how
  clear hn hr how hk hc c1 c2 c3 c4
  go_enter Tryz.func30, Tryz.ntmps30
  go_wp2_with (first | (go_at_call 35; refine HS.out.mono ?_; rintro e w2 ⟨rfl, rfl⟩) | (go_at_call 36; refine HO.out.mono ?_; rintro e w2 ⟨rfl, hb2⟩))
  go_ret
  exact ⟨rfl, hb2⟩
set_option maxRecDepth 100000 in
set_option maxHeartbeats 4000000 in
theorem own_paren (n : Nd) (g o L B : Nat) (w : World) (v : Bool) (hn : NdC w L B n g o) (hB : B ≤ w.heap.size) (hk : n.kind = 26) (ht : n.text = ⟨#[]⟩) (x : Nd) (hks : n.kids = [x])
    (hex : ∀ (W : World) (g2 o2 : Nat), Below w.heap.size w W → NdC W L B x g2 o2 → Calls Tryz.prog 30 #[.pointer (some ⟨g2, o2, none⟩)] W fun e w' => e = .returned (.bool v) ∧ Below W.heap.size W w') :
    Calls Tryz.prog 36 #[.pointer (some ⟨g, o, none⟩)] w fun e w' => e = .returned (.bool v) ∧ Below w.heap.size w w' := by
  obtain ⟨b, cap, hg, c0, c1, c2, c3, c4, hc, hr⟩ := hn.facts hB
  have HK := Lib.hid hk
  have HT := Lib.hid ht
  have HN := Lib.hid hn
  have HEX := Lib.hid hex
  have H1 := Lib.hid (show n.kids.length = 1 by rw [hks]; rfl)
  have HX := Lib.hid (show ∀ h : 0 < n.kids.length, n.kids[0] = x from fun h => by simp [hks])
  clear hn hr hk ht hc hex hks
  go_enter Tryz.func36, Tryz.ntmps36
  go_upto_region 3 with (go_at_call 34; refine (kind_any _ _ _ _).mono ?_; rintro e w2 ⟨rfl, rfl⟩)
  have hb4 : Below w.heap.size w ((((w.alloc (.cells #[.int .i64 58] 3)).alloc (.cells #[.slice (some ⟨w.heap.size, 0, none⟩) 1 1] 39)).alloc (.cells #[.int .i64 1] 3)).alloc (.cells #[.slice (some ⟨w.heap.size + 1 + 1, 0, none⟩) 1 1] 39)) := (((alloc_bel w _).alloc (by simp) _).alloc (by simp <;> omega) _).alloc (by simp <;> omega) _
  generalize ((((w.alloc (.cells #[.int .i64 58] 3)).alloc (.cells #[.slice (some ⟨w.heap.size, 0, none⟩) 1 1] 39)).alloc (.cells #[.int .i64 1] 3)).alloc (.cells #[.slice (some ⟨w.heap.size + 1 + 1, 0, none⟩) 1 1] 39)) = w4 at *
  have HB4 := Lib.hid hb4
  have hn4 := NdC_bel HN.out (hb4.mono hB)
  have hB4 := Nat.le_trans hB hb4.size
  clear c0 c1 c2 c3 c4 hb4 hg
  obtain ⟨b2, cap2, hg, c0, c1, c2, c3, c4, _, _⟩ := hn4.facts hB4
  rw [HK.out] at c0
  rw [HT.out] at c1
  clear hn4
  go_wp2_with fail
  have hb5 : Below w.heap.size w (w4.alloc (.cells #[.func (.func 30) #[] #[]] 51)) := HB4.out.alloc HB4.out.size _
  have hcl := heap_alloc_new w4 (.cells #[.func (.func 30) #[] #[]] 51)
  have HKO := Lib.hid (kids_one n g o L B w4.heap.size (w4.alloc (.cells #[.func (.func 30) #[] #[]] 51)) (NdC_bel HN.out (hb5.mono hB)) (Nat.le_trans hB hb5.size) H1.out (cell_of_row _ w4.heap.size 0 _ _ _ hcl) (by rw [World.size_alloc]; omega) v (fun g2 o2 h => HEX.out _ g2 o2 hb5 (by rw [HX.out] at h; exact h)))
  refine HKO.out.mono ?_
  rintro e w6 ⟨rfl, hb6⟩
  have HB6 := Lib.hid (bel_next hb5 hb6)
  clear hb5 hb6 hcl c0 c1 c2 c3 c4 hg
  go_wp2_with fail
  go_ret
  exact ⟨rfl, HB6.out⟩
/-- one: no Program. -/
theorem one_no (n : Nd) (g o L B : Nat) (w : World) (hn : NdC w L B n g o) (hB : B ≤ w.heap.size) (hk : n.kind ≠ 86) :
    Calls Tryz.prog 29 #[.pointer (some ⟨g, o, none⟩), .string ⟨#[80, 114, 111, 103, 114, 97, 109]⟩] w fun e w' => e = .returned (.bool false) ∧ Below w.heap.size w w' := by
  have hkind : ∀ (r q : Nat) (W : World), Below w.heap.size w W → W.cell? ⟨q, 0, none⟩ = some (.slice (some ⟨r, 0, none⟩) 1 1) → W.cell? ⟨r, 0, none⟩ = some (.int .i64 86) → q < W.heap.size → r < W.heap.size →
      Calls Tryz.prog 38 #[.pointer (some ⟨g, o, none⟩), .pointer (some ⟨q, 0, none⟩)] W fun e w' => e = .returned (.bool false) ∧ Below W.heap.size W w' := by
    intro r q W hb hq hr hql hrl
    obtain ⟨b, cap, hg, c0, c1, c2, c3, c4, hc, hr2⟩ := (NdC_bel hn (hb.mono hB)).facts (Nat.le_trans hB hb.size)
    have HC := Lib.hid (fun W2 (h1 : r < W2.heap.size) (h2 : W2.cell? ⟨r, 0, none⟩ = some (.int .i64 86)) => contains_no r 86 n.kind W2 h1 h2 hk)
    clear hn hr2 c1 c2 c3 c4 hk hc hb
    go_enter Tryz.func38, Tryz.ntmps38
    go_wp2_with fail
    go_quiet ((go_at_call 39; exact Calls.quiet_of_same ((HC.out (W.drewN _) hrl hr).mono (fun _ _ h => ⟨h.1, h.2.symm⟩))))
    go_wp2_with fail
    go_ret
    exact ⟨rfl, bel_drewN (Below.refl _ _) _⟩
  have HKD := Lib.hid hkind
  clear hkind hn hk
  go_enter Tryz.func29, Tryz.ntmps29
  go_wp2_with (go_at_call 34; refine (kind_any _ _ _ _).mono ?_; rintro e w2 ⟨rfl, rfl⟩)
  have hb2 : Below w.heap.size w ((w.alloc (.cells #[.int .i64 86] 3)).alloc (.cells #[.slice (some ⟨w.heap.size, 0, none⟩) 1 1] 39)) := (alloc_bel w _).alloc (by simp) _
  have e1 := heap_alloc_new (w.alloc (.cells #[.int .i64 86] 3)) (.cells #[.slice (some ⟨w.heap.size, 0, none⟩) 1 1] 39)
  rw [World.size_alloc] at e1
  have e0 : ((w.alloc (.cells #[.int .i64 86] 3)).alloc (.cells #[.slice (some ⟨w.heap.size, 0, none⟩) 1 1] 39)).heap[w.heap.size]? = some (.cells #[.int .i64 86] 3 (0, 0)) := (Below.heap_alloc _ _ _ (by simp)).trans (heap_alloc_new _ _)
  have HKD2 := Lib.hid (HKD.out w.heap.size (w.heap.size + 1) _ hb2 (cell_of_row _ _ 0 _ _ _ e1) (cell_of_row _ _ 0 _ _ _ e0) (by simp) (by simp <;> omega))
  refine HKD2.out.mono ?_
  rintro e w3 ⟨rfl, hb3⟩
  have HB3 := Lib.hid (bel_next hb2 hb3)
  clear hb2 hb3 e0 e1
  go_wp2_with fail
  go_ret
  exact ⟨rfl, HB3.out⟩
/-- what Check answers. -/
def chkV (n : Nd) (r : Bool) : Int := if ndDeep n ≤ 8000 then (if r then 0 else 800) else 801
/-- Check of what is no Program. -/
theorem Check_any (n : Nd) (v : Value) (w : World) (L B : Nat) (r : Bool) (hv : NdV w L B n v) (hB : B ≤ w.heap.size) (hsz : ndSize n ≤ 4194304) (hk : n.kind ≠ 86)
    (hex : ndDeep n ≤ 8000 → ∀ (W : World) (g o L2 B2 : Nat), NdC W L2 B2 n g o → B2 ≤ W.heap.size → Below w.heap.size w W → Calls Tryz.prog 30 #[.pointer (some ⟨g, o, none⟩)] W fun e w' => e = .returned (.bool r) ∧ Below W.heap.size W w') :
    Calls Tryz.prog 19 #[v] w fun e w' => e = .returned (.int .i64 (chkV n r)) ∧ Below w.heap.size w w' := by
  obtain ⟨b, cap, rfl, hcap, hrow⟩ := hv
  unfold ndCells at *
  have hba := alloc_bel w (.cells #[.int .i64 n.kind, .string n.text, .slice b n.kids.length cap, .int .i64 n.from', .int .i64 n.till] 24)
  have hbx := box_new w n b cap
  have HR := Lib.hid hrow
  have HEX := Lib.hid hex
  have HK := Lib.hid hk
  clear hrow hex hk
  go_enter Tryz.func19, Tryz.ntmps19
  go_upto_region 1 with fail
  generalize World.alloc w _ = w1 at *
  have HB := Lib.hid hba
  have HX := Lib.hid hbx
  have HN := Lib.hid (measure_box n w w1 L B _ b cap hba hB hbx hcap HR.out hsz)
  clear hba hbx hsz
  go_wp2_with fail
  refine HN.out.mono ?_
  rintro e w2 ⟨rfl, hb2⟩
  have HB2 := Lib.hid (bel_next HB.out hb2)
  have HX2 := Lib.hid (HX.out.bel hb2 HX.out.lt)
  have HN2 := Lib.hid (HX2.out.ndc hcap (RowP_bel HR.out (HB2.out.mono hB)) (Nat.le_trans hB HB2.out.size))
  clear hb2 HX HN
  by_cases hd : ndDeep n ≤ 8000
  · have hdd : (msE n != 0) = false := by rw [msE, if_pos hd]; rfl
    have HO := Lib.hid (one_no n w.heap.size 0 0 w2.heap.size w2 HN2.out (Nat.le_refl _) HK.out)
    have HA := Lib.hid (show chkV n r = (if r then 0 else 800) by rw [chkV, if_pos hd])
    have HD := Lib.hid hd
    clear hd
    go_wp2_with fail
    refine HO.out.mono ?_
    rintro e w3 ⟨rfl, hb3⟩
    have HB3 := Lib.hid (bel_next HB2.out hb3)
    have HE := Lib.hid (HEX.out HD.out w3 w.heap.size 0 0 w2.heap.size (NdC_bel HN2.out hb3) hb3.size HB3.out)
    clear hb3
    cases r with
    | true =>
      go_wp2_with fail
      refine HE.out.mono ?_
      rintro e w4 ⟨rfl, hb4⟩
      have HB4 := Lib.hid (bel_next HB3.out hb4)
      clear hb4
      go_wp2_with fail
      go_ret
      exact ⟨by rw [HA.out]; rfl, HB4.out⟩
    | false =>
      go_wp2_with fail
      refine HE.out.mono ?_
      rintro e w4 ⟨rfl, hb4⟩
      have HB4 := Lib.hid (bel_next HB3.out hb4)
      clear hb4
      go_wp2_with fail
      go_ret
      exact ⟨by rw [HA.out]; rfl, HB4.out⟩
  · have hdd : (msE n != 0) = true := by rw [msE, if_neg hd]; rfl
    have HD := Lib.hid (show msE n = 801 by rw [msE, if_neg hd])
    have HA := Lib.hid (show chkV n r = 801 by rw [chkV, if_neg hd])
    clear hd
    go_wp2_with fail
    go_ret
    exact ⟨by rw [HD.out, HA.out]; rfl, HB2.out⟩
end Go.Proofs.YteejjkfmmhegmaaGreatDoor
namespace Go.Proofs.YteejjkfmmhegmaaGreatDoor
open Go.RowKit

/-- the trees of awake. -/
def idN (s : ByteArray) : Nd := .mk 1 s [] 0 0
def lA : ByteArray := ⟨#[97]⟩
def lLet : ByteArray := ⟨#[108, 101, 116]⟩
def awN : Nd := .mk 26 ⟨#[]⟩ [idN lA] 3 0
theorem idN_size (s : ByteArray) : ndSize (idN s) = 1 := by rw [idN, ndSize, ndSizes]
theorem idN_deep (s : ByteArray) : ndDeep (idN s) = 1 := by rw [idN, ndDeep, ndDeeps]
theorem awN_size : ndSize awN = 2 := by rw [awN, ndSize, ndSizes, ndSizes, idN_size]
theorem awN_deep : ndDeep awN = 2 := by rw [awN, ndDeep, ndDeeps, ndDeeps, idN_deep]; rfl
theorem id_v (w : World) (L B : Nat) (s : ByteArray) : NdV w L B (idN s) (.agg #[.int .i64 1, .string s, .slice none 0 0, .int .i64 0, .int .i64 0]) :=
  ⟨none, 0, rfl, Nat.le_refl _, by show RowP _ _ _ [] _ _; rw [RowP]; trivial⟩
theorem lident_any (s : ByteArray) (w : World) : Calls Tryz.prog 18 #[.string s] w fun e w' => e = .returned (.agg #[.int .i64 1, .string s, .slice none 0 0, .int .i64 0, .int .i64 0]) ∧ Below w.heap.size w w' := by
  go_enter Tryz.func18, Tryz.ntmps18
  go_wp2_with fail
  have h := heap_alloc_new w (.cells #[.int .i64 1, .string s, .slice none 0 0, .int .i64 0, .int .i64 0] 24)
  refine bodyPost_ret (results_nd rfl _ _ w.heap.size rfl h) rfl ?_
  exact ⟨rfl, alloc_bel _ _⟩
/-- expression of an Ident. -/
theorem expr_ident (s : ByteArray) (v r : Bool) (W : World) (g o L B : Nat) (hn : NdC W L B (idN s) g o) (hB : B ≤ W.heap.size) (hs : s.size ≤ 16777216) (hv : nameOK s.data.toList = v) (hr : ∀ w, Calls Tryz.prog 69 #[.string s, .bool false] w fun e w' => e = .returned (.bool r) ∧ w = w') :
    Calls Tryz.prog 30 #[.pointer (some ⟨g, o, none⟩)] W fun e w' => e = .returned (.bool (v && !r)) ∧ Below W.heap.size W w' :=
  expr_1 (idN s) g o L B W _ hn hB rfl (own_ident (idN s) g o L B W _ hn hB rfl rfl (fun w => ident_of s v r w hs hv hr))
/-- expression of a Paren around what is one. -/
theorem expr_paren (x : Nd) (f u : Int) (v : Bool) (W : World) (g o L B : Nat) (hn : NdC W L B (.mk 26 ⟨#[]⟩ [x] f u) g o) (hB : B ≤ W.heap.size)
    (hex : ∀ (W2 : World) (g2 o2 : Nat), Below W.heap.size W W2 → NdC W2 L B x g2 o2 → Calls Tryz.prog 30 #[.pointer (some ⟨g2, o2, none⟩)] W2 fun e w' => e = .returned (.bool v) ∧ Below W2.heap.size W2 w') :
    Calls Tryz.prog 30 #[.pointer (some ⟨g, o, none⟩)] W fun e w' => e = .returned (.bool v) ∧ Below W.heap.size W w' :=
  expr_26 _ g o L B W v hn hB rfl (own_paren _ g o L B W v hn hB rfl rfl x rfl hex)
theorem name_a : nameOK lA.data.toList = true := by decide +kernel
theorem name_let : nameOK lLet.data.toList = true := by decide +kernel
theorem aw_check1 (v : Value) (w : World) (L B : Nat) (hv : NdV w L B awN v) (hB : B ≤ w.heap.size) : Calls Tryz.prog 19 #[v] w fun e w' => e = .returned (.int .i64 0) ∧ Below w.heap.size w w' := by
  have h := Check_any awN v w L B true hv hB (by rw [awN_size]; decide) (by decide) (fun _ W g o L2 B2 hn hB2 _ => expr_paren _ _ _ _ W g o L2 B2 hn hB2 fun W2 g2 o2 hb hn2 => expr_ident lA true false W2 g2 o2 L2 B2 hn2 (Nat.le_trans hB2 hb.size) (by decide) name_a (fun w => reserved_RA w))
  have e : chkV awN true = 0 := by rw [chkV, awN_deep]; rfl
  rw [e] at h
  exact h
theorem aw_check2 (v : Value) (w : World) (L B : Nat) (hv : NdV w L B (idN lLet) v) (hB : B ≤ w.heap.size) : Calls Tryz.prog 19 #[v] w fun e w' => e = .returned (.int .i64 800) ∧ Below w.heap.size w w' := by
  have h := Check_any (idN lLet) v w L B false hv hB (by rw [idN_size]; decide) (by decide) (fun _ W g o L2 B2 hn hB2 _ => expr_ident lLet true true W g o L2 B2 hn hB2 (by decide) name_let (fun w => reserved_RLet w))
  have e : chkV (idN lLet) false = 800 := by rw [chkV, idN_deep]; rfl
  rw [e] at h
  exact h
theorem aw_bare : bareT awN = idN lA := by
  rw [bareT, awN_deep, if_pos (by decide), bareNd_eq, if_pos (show awN.kind = 26 from rfl)]
  show bareFst [idN lA] = _
  rw [bareFst, bareNd_eq, if_neg (by decide)]
  rfl
theorem aw_same1 : sameNd (idN lA) (idN lA) = true := sameNd_refl _
theorem aw_same2 : sameNd awN (idN lA) = false := by rw [sameNd_eq]; rfl
theorem aw_size (v : Value) (w : World) (L B : Nat) (hv : NdV w L B awN v) (hB : B ≤ w.heap.size) : Calls Tryz.prog 22 #[v] w fun e w' => e = .returned (.int .i64 2) ∧ Below w.heap.size w w' := by
  have h := size_any awN v w L B hv hB (by rw [awN_size]; decide)
  have e : msS awN = 2 := by rw [msS, awN_deep, awN_size]; rfl
  rw [e] at h
  exact h
theorem aw_depth (v : Value) (w : World) (L B : Nat) (hv : NdV w L B awN v) (hB : B ≤ w.heap.size) : Calls Tryz.prog 21 #[v] w fun e w' => e = .returned (.int .i64 2) ∧ Below w.heap.size w w' := by
  have h := depth_any awN v w L B hv hB (by rw [awN_size]; decide)
  have e : msD awN = 2 := by rw [msD, awN_deep]; rfl
  rw [e] at h
  exact h
theorem aw_bareC (v : Value) (w : World) (L B : Nat) (hv : NdV w L B awN v) (hB : B ≤ w.heap.size) : Calls Tryz.prog 14 #[v] w fun e w' => ∃ u, e = .returned u ∧ NdV w' 0 w'.heap.size (idN lA) u ∧ Below w.heap.size w w' := by
  have h := Bare_any awN v w L B hv hB (by rw [awN_size]; decide)
  rw [aw_bare] at h
  exact h.mono fun e w' ⟨u, he, hu, hb⟩ => ⟨u, he, by
    obtain ⟨b, cap, h1, h2, h3⟩ := hu.v
    exact ⟨b, cap, h1, h2, RowP_keep (Nat.zero_le _) (Nat.le_refl _) (fun _ _ _ => rfl) h3⟩, hb⟩
theorem aw_sameT (v u : Value) (w : World) (L B : Nat) (hv : NdV w L B (idN lA) v) (hu : NdV w L B (idN lA) u) (hB : B ≤ w.heap.size) : Calls Tryz.prog 9 #[v, u] w fun e w' => e = .returned (.bool true) ∧ Below w.heap.size w w' := by
  have h := same_any (idN lA) (idN lA) v u w L B hv hu hB (by rw [idN_size]; decide)
  rw [aw_same1] at h
  exact h
theorem aw_sameF (v : Value) (w : World) (L B : Nat) (hv : NdV w L B awN v) (hB : B ≤ w.heap.size) : Calls Tryz.prog 9 #[v, .agg #[.int .i64 1, .string lA, .slice none 0 0, .int .i64 0, .int .i64 0]] w fun e w' => e = .returned (.bool false) ∧ Below w.heap.size w w' := by
  have h := same_any awN (idN lA) v _ w L B hv (id_v w L B lA) hB (by rw [awN_size]; decide)
  rw [aw_same2] at h
  exact h
set_option maxRecDepth 20000 in
set_option maxHeartbeats 4000000 in
theorem awake_any (w : World) : Calls Tryz.prog 13 #[] w fun e w' => e = .returned (.bool true) ∧ Below w.heap.size w w' := by
  go_enter Tryz.func13, Tryz.ntmps13
  go_upto_region 2 with (go_at_call 18; refine (lident_any _ _).mono ?_; rintro e w1 ⟨rfl, hb1⟩)
  have hb3 := (hb1.alloc hb1.size (.cells #[.int .i64 1, .string ⟨#[97]⟩, .slice none 0 0, .int .i64 0, .int .i64 0] 24)).alloc (by have := hb1.size; simp <;> omega) (.cells #[.int .i64 26, .string ⟨#[]⟩, .slice (some ⟨w1.heap.size, 0, none⟩) 1 1, .int .i64 3, .int .i64 0] 24)
  have hx := heap_alloc_new (w1.alloc (.cells #[.int .i64 1, .string ⟨#[97]⟩, .slice none 0 0, .int .i64 0, .int .i64 0] 24)) (.cells #[.int .i64 26, .string ⟨#[]⟩, .slice (some ⟨w1.heap.size, 0, none⟩) 1 1, .int .i64 3, .int .i64 0] 24)
  rw [World.size_alloc] at hx
  have hk : ((w1.alloc (.cells #[.int .i64 1, .string ⟨#[97]⟩, .slice none 0 0, .int .i64 0, .int .i64 0] 24)).alloc (.cells #[.int .i64 26, .string ⟨#[]⟩, .slice (some ⟨w1.heap.size, 0, none⟩) 1 1, .int .i64 3, .int .i64 0] 24)).heap[w1.heap.size]? = some (.cells #[.int .i64 1, .string ⟨#[97]⟩, .slice none 0 0, .int .i64 0, .int .i64 0] 24 (0, 0)) := (Below.heap_alloc _ _ _ (by simp)).trans (heap_alloc_new _ _)
  generalize World.alloc (World.alloc w1 _) _ = w3 at *
  generalize w1.heap.size + 1 = p at *
  generalize w1.heap.size = q at *
  have hX : NdBox w3 p 26 ⟨#[]⟩ (some ⟨q, 0, none⟩) 1 1 3 0 := hx
  have hK : NdBox w3 q 1 ⟨#[97]⟩ none 0 0 0 0 := hk
  have hrow : RowP w3 0 w3.heap.size [idN lA] (some ⟨q, 0, none⟩) 0 := by
    refine RowP_of fun j hj => ⟨q, 0, rfl, ?_⟩
    have : j = 0 := by simpa using hj
    subst this
    obtain ⟨k0, k1, k2, k3, k4, _⟩ := NdBox.facts hK
    rw [NdC_eq]
    exact ⟨none, 0, Nat.zero_le _, hK.lt, k0, k1, k2, k3, k4, Nat.le_refl _, by show RowP _ _ _ [] _ _; rw [RowP]; trivial⟩
  have HV := Lib.hid (fun (W : World) (hb : Below w3.heap.size w3 W) => (show NdV W 0 w3.heap.size awN (.agg #[.int .i64 26, .string ⟨#[]⟩, .slice (some ⟨q, 0, none⟩) 1 1, .int .i64 3, .int .i64 0]) from ⟨_, _, rfl, Nat.le_refl _, RowP_bel hrow hb⟩))
  have HB := Lib.hid hb3
  have HX := Lib.hid hX
  have hpl := hX.lt
  have H1 := Lib.hid (aw_check1 _ w3 0 _ (HV.out w3 (Below.refl _ _)) (Nat.le_refl _))
  obtain ⟨d0, d1, d2, d3, d4, g0, g1, g2, g3, g4⟩ := NdBox.facts hX
  clear hb1 hb3 hx hk hK hX hrow
  go_upto_region 3 with (go_at_call 19; refine H1.out.mono ?_; rintro e w4 ⟨rfl, hb4⟩)
  clear d0 d1 d2 d3 d4 g0 g1 g2 g3 g4 H1
  go_wp2_with fail
  refine (lident_any _ _).mono ?_
  rintro e w5 ⟨rfl, hb5⟩
  have hb45 := bel_next hb4 hb5
  have H2 := Lib.hid (aw_check2 _ w5 0 w5.heap.size (id_v w5 0 _ lLet) (Nat.le_refl _))
  clear hb4 hb5
  go_upto_region 4 with (go_at_call 19; refine H2.out.mono ?_; rintro e w6 ⟨rfl, hb6⟩)
  have hb := bel_next hb45 hb6
  clear hb45 hb6 H2
  replace hb := Below.drew hb
  have HSz := Lib.hid (fun (W : World) (hb : Below w3.heap.size w3 W) => aw_size _ W 0 _ (HV.out W hb) hb.size)
  have HDp := Lib.hid (fun (W : World) (hb : Below w3.heap.size w3 W) => aw_depth _ W 0 _ (HV.out W hb) hb.size)
  have HBa := Lib.hid (fun (W : World) (hb : Below w3.heap.size w3 W) => aw_bareC _ W 0 _ (HV.out W hb) hb.size)
  have HS1 := Lib.hid (fun (W : World) (v u : Value) (B : Nat) (hB : B ≤ W.heap.size) (h : NdV W 0 B (idN lA) v) (k : NdV W 0 B (idN lA) u) => aw_sameT v u W 0 B h k hB)
  have HS2 := Lib.hid (fun (W : World) (hb : Below w3.heap.size w3 W) => aw_sameF _ W 0 _ (HV.out W hb) hb.size)
  obtain ⟨d0, d1, d2, d3, d4, _⟩ := NdBox.facts (HX.out.bel hb hpl)
  have hpw : p < w6.drew.heap.size := Nat.lt_of_lt_of_le hpl hb.size
  go_region_with (first
    | (go_at_call 20; refine (num_any _ _).mono ?_; rintro e w' ⟨rfl, rfl⟩)
    | (go_at_call 22; (with_reducible refine (HSz.out _ hb).mono ?_); rintro e w2 ⟨rfl, hb2⟩; replace hb := bel_next hb hb2; clear hb2 d0 d1 d2 d3 d4 hpw; obtain ⟨d0, d1, d2, d3, d4, _⟩ := NdBox.facts (HX.out.bel hb hpl); have hpw := Nat.lt_of_lt_of_le hpl hb.size)
    | (go_at_call 21; (with_reducible refine (HDp.out _ hb).mono ?_); rintro e w2 ⟨rfl, hb2⟩; replace hb := bel_next hb hb2; clear hb2 d0 d1 d2 d3 d4 hpw; obtain ⟨d0, d1, d2, d3, d4, _⟩ := NdBox.facts (HX.out.bel hb hpl); have hpw := Nat.lt_of_lt_of_le hpl hb.size)
    | (go_at_call 14; (with_reducible refine (HBa.out _ hb).mono ?_); rintro e w2 ⟨u, rfl, hu, hb2⟩; have HU := Lib.hid hu; replace hb := bel_next hb hb2; clear hu hb2 d0 d1 d2 d3 d4 hpw; obtain ⟨d0, d1, d2, d3, d4, _⟩ := NdBox.facts (HX.out.bel hb hpl); have hpw := Nat.lt_of_lt_of_le hpl hb.size)
    | (go_at_call 18; (with_reducible refine (lident_any _ _).mono ?_); rintro e w2 ⟨rfl, hbI⟩; replace hb := bel_next hb hbI; clear d0 d1 d2 d3 d4 hpw; obtain ⟨d0, d1, d2, d3, d4, _⟩ := NdBox.facts (HX.out.bel hb hpl); have hpw := Nat.lt_of_lt_of_le hpl hb.size)
    | (go_at_call 9; (refine (HS1.out _ _ _ _ hbI.size (NdV_bel HU.out hbI) (id_v _ _ _ lA)).mono ?_); rintro e w2 ⟨rfl, hb2⟩; replace hb := bel_next hb hb2; clear HU hbI hb2 d0 d1 d2 d3 d4 hpw; obtain ⟨d0, d1, d2, d3, d4, _⟩ := NdBox.facts (HX.out.bel hb hpl); have hpw := Nat.lt_of_lt_of_le hpl hb.size)
    | (go_at_call 9; (refine (HS2.out _ hb).mono ?_); rintro e w2 ⟨rfl, hb2⟩; replace hb := bel_next hb hb2; clear hb2 d0 d1 d2 d3 d4 hpw))
  all_goals go_wp2_with fail
  all_goals go_ret
  all_goals exact ⟨rfl, HB.out.trans (hb.mono HB.out.size)⟩
end Go.Proofs.YteejjkfmmhegmaaGreatDoor
