/- Contract of the reference's Print: it answers what num.Print answers. Condition: at most 2^21 bytes. -/
import Derived.Test.YthnchejhcmpipaaDoorRI
import Derived.Test.YthnchejhcmpipaaDoorM
namespace Go.Proofs.YthnchejhcmpipaaDoor
open Go.RowKit

set_option maxRecDepth 100000 in
set_option maxHeartbeats 2000000 in
theorem print_ref_no (s : ByteArray) (w : World) (hs : s.size ≤ 2097152) (h : (readB s).2 = false) :
    Calls Tryd.prog 11 #[.string s] w fun e w' => e = .returned (.tuple #[.string ⟨(printB s).1.toArray⟩, .int .i64 (printB s).2]) ∧ Below w.heap.size w w' := by
  have HO := Lib.hid (fun W => of_no s W (by omega) h)
  have HC := Lib.hid (show printB s = ([], 200) by unfold printB; rw [h, if_neg (by decide)])
  clear h
  go_enter Tryd.func11, Tryd.ntmps11
  go_wp2_with (go_at_call 26; refine (HO.out _).mono ?_; rintro e w1 ⟨⟨base, whole, point, part, ex, minus, power, big⟩, rfl, hb1⟩; unfold Lit.val Lit.cells)
  go_ret2
  exact ⟨by rw [HC.out]; rfl, bel_alloc hb1 _⟩
/-- the reference's own great letters. -/
def upF (c : UInt8) : UInt8 := if 97 ≤ c.toNat then c - 32 else c
theorem sub32 (c : UInt8) (h : 97 ≤ c.toNat) : (c - 32).toNat = c.toNat - 32 := by
  rw [UInt8.toNat_sub]
  have := c.toNat_lt
  show (256 - 32 + c.toNat) % 256 = _
  omega
theorem up_lower (c : UInt8) (h : okB 120 c) : upF (Lib.lowerB c) = Lib.upperB c := by
  have := all_bytes (P := fun c => (isD 120 c = true ∨ c = 95) → upF (Lib.lowerB c) = Lib.upperB c) (by decide +kernel) c
  exact this h
/-- the loop that turns to great letters; from its own world on. -/
theorem print_oth_text {s : ByteArray} {c1 : UInt8} {w : List UInt8} {big : Bool} (h : Oth s c1 w big) (X : ByteArray) (hX : X.data.toList = w.map (caseP c1)) : (⟨(printB s).1.toArray⟩ : ByteArray) = mkB (Lib.toLowerA (s.data.toList.take 2)) ++ X ++ endB big ∧ (printB s).2 = 0 := by
  rw [h.print]
  refine ⟨byteArray_ext _ _ ?_, rfl⟩
  rw [ByteArray.data_append, ByteArray.data_append, Array.toList_append, Array.toList_append, hX, mkB_list, h.txt]
  unfold Lib.toLowerA
  simp
  rfl
theorem casePL2 (c1 : UInt8) (w : List UInt8) : w.map (caseP c1) = if (c1.toNat ||| 32) = 120 then Lib.toUpperA w else Lib.toLowerA w := (casePL c1 w).symm
set_option maxRecDepth 100000 in
set_option maxHeartbeats 2000000 in
theorem print_ref_low (s : ByteArray) (w : World) (hs : s.size ≤ 2097152) (c1 : UInt8) (wl : List UInt8) (big : Bool) (hO : Oth s c1 wl big) (b : Nat) (hb : baseOf s = b) (hb2 : b = 8 ∨ b = 2) (hc : (c1.toNat ||| 32) ≠ 120) :
    Calls Tryd.prog 11 #[.string s] w fun e w' => e = .returned (.tuple #[.string ⟨(printB s).1.toArray⟩, .int .i64 (printB s).2]) ∧ Below w.heap.size w w' := by
  have hof := fun W => of_yes s W (by omega) (by rw [hO.read])
  rw [hO.read, hb] at hof
  have hlen : wl.length ≤ s.size := by rw [← ofl, hO.txt]; simp; omega
  have hl2 : 2 ≤ s.size := by rw [← ofl, hO.txt]; simp
  obtain ⟨WL, hW, hWl⟩ := mk_of_data wl
  obtain ⟨L, hL, hLl⟩ := mk_of_data (Lib.toLowerA wl)
  obtain ⟨M, hM, hMl⟩ := mk_of_data (Lib.toLowerA (s.data.toList.take 2))
  have hT := print_oth_text hO L (by rw [hLl, casePL2, if_neg hc])
  rw [hM] at hT
  have zW : WL.size ≤ 2097152 := by rw [← ofl, hWl]; omega
  have zL : L.size ≤ 2097152 := by rw [← ofl, hLl]; unfold Lib.toLowerA; rw [List.length_map]; omega
  have zM : M.size ≤ 2 := by rw [← ofl, hMl]; unfold Lib.toLowerA; rw [List.length_map, List.length_take]; omega
  have cL : ∀ W, Calls Tryd.prog 28 #[.string WL] W fun e w' => e = .returned (.string L) ∧ Below W.heap.size W w' := fun W => by
    have := small_ref WL W (by omega)
    rw [hWl] at this
    rw [← hL]
    exact this
  have cM : ∀ W, Calls Tryd.prog 28 #[.string (s.extract 0 2)] W fun e w' => e = .returned (.string M) ∧ Below W.heap.size W w' := fun W => by
    have := small_ref (s.extract 0 2) W (by rw [ByteArray.size_extract]; omega)
    rw [extract_take] at this
    rw [← hM]
    exact this
  have hPP : ({ (⟨16, mkB wl, false, emp, false, false, emp, big⟩ : Lit) with base := b } : Lit) = ⟨b, WL, false, emp, false, false, emp, big⟩ := by rw [← hW]
  rw [hPP] at hof
  unfold Lit.val Lit.cells at hof
  simp only at hof
  have hEs : (endB big).size ≤ 1 := by cases big <;> decide
  have HO := Lib.hid hof
  have HT := Lib.hid hT
  have CL := Lib.hid cL
  have CM := Lib.hid cM
  generalize hS2 : s.extract 0 2 = S2 at *
  have n10 : ((b : Int) != 10) = true := by rw [bne_iff_ne]; omega
  have n16 : ((b : Int) == 16) = false := by rw [beq_eq_false_iff_ne]; omega
  clear hof hT cL cM hPP hW hWl hL hLl hM hMl hO hb hb2 hc hlen
  go_enter Tryd.func11, Tryd.ntmps11
  go_upto_region 2 with (go_at_call 26; refine (HO.out _).mono ?_; rintro e w1 ⟨rfl, hb1⟩)
  have hP : ParAt (w1.alloc (.cells (Lit.cells ⟨b, WL, false, emp, false, false, emp, big⟩) 49)) w1.heap.size ⟨b, WL, false, emp, false, false, emp, big⟩ := heap_alloc_new _ _
  have hB : Below w.heap.size w (w1.alloc (.cells (Lit.cells ⟨b, WL, false, emp, false, false, emp, big⟩) 49)) := bel_alloc hb1 _
  have e0 : w1.alloc (.cells (Lit.cells ⟨b, WL, false, emp, false, false, emp, big⟩) 49) = w1.alloc (.cells #[.int .i64 b, .string WL, .bool false, .string emp, .bool false, .bool false, .string emp, .bool big] 49) := rfl
  rw [e0] at hP hB
  generalize w1.alloc (.cells #[.int .i64 b, .string WL, .bool false, .string emp, .bool false, .bool false, .string emp, .bool big] 49) = w2 at *
  generalize w1.heap.size = bp at *
  clear e0 hb1 HO
  have HP := Lib.hid hP
  clear hP
  obtain ⟨c0, c1, c2, c3, c4, c5, c6, c7, f0, f1, f2, f3, f4, f5, f6, f7⟩ := ParAt.facts HP.out
  go_upto_region 6 with (go_at_call 28; refine (CL.out _).mono ?_; rintro e w3 ⟨rfl, hb3⟩)
  have HP3 := Lib.hid (HP.out.below hb3 HP.out.lt)
  have hB3 := bel_next hB hb3
  clear c0 c1 c2 c3 c4 c5 c6 c7 f0 f1 f2 f3 f4 f5 f6 f7 HP hB CL hb3
  obtain ⟨c0, c1, c2, c3, c4, c5, c6, c7, f0, f1, f2, f3, f4, f5, f6, f7⟩ := ParAt.facts HP3.out
  go_upto_region 16 with (go_at_call 28; refine (CM.out _).mono ?_; rintro e w4 ⟨rfl, hb4⟩)
  have HP4 := Lib.hid (HP3.out.below hb4 HP3.out.lt)
  have hB4 := bel_next hB3 hb4
  clear c0 c1 c2 c3 c4 c5 c6 c7 f0 f1 f2 f3 f4 f5 f6 f7 HP3 hB3 CM hb4
  obtain ⟨c0, c1, c2, c3, c4, c5, c6, c7, f0, f1, f2, f3, f4, f5, f6, f7⟩ := ParAt.facts HP4.out
  cases big with
  | true =>
    go_wp2_with fail
    go_ret2
    refine ⟨?_, hB4⟩
    rw [HT.out.1, HT.out.2]
    rfl
  | false =>
    go_wp2_with fail
    go_ret2
    refine ⟨?_, hB4⟩
    rw [HT.out.1, HT.out.2, show endB false = ⟨#[]⟩ from rfl]
    have e : M ++ L ++ ⟨#[]⟩ = M ++ L := ba_ext (by simp)
    rw [e]
    rfl
set_option maxRecDepth 100000 in
set_option maxHeartbeats 2000000 in
theorem print_ref_hex (s : ByteArray) (w : World) (hs : s.size ≤ 2097152) (c1 : UInt8) (wl : List UInt8) (big : Bool) (hO : Oth s c1 wl big) (b : Nat) (hb : baseOf s = b) (hb2 : b = 16) (hc : (c1.toNat ||| 32) = 120) :
    Calls Tryd.prog 11 #[.string s] w fun e w' => e = .returned (.tuple #[.string ⟨(printB s).1.toArray⟩, .int .i64 (printB s).2]) ∧ Below w.heap.size w w' := by
  have hof := fun W => of_yes s W (by omega) (by rw [hO.read])
  rw [hO.read, hb] at hof
  have hlen : wl.length ≤ s.size := by rw [← ofl, hO.txt]; simp; omega
  have hl2 : 2 ≤ s.size := by rw [← ofl, hO.txt]; simp
  obtain ⟨WL, hW, hWl⟩ := mk_of_data wl
  obtain ⟨L, hL, hLl⟩ := mk_of_data (Lib.toLowerA wl)
  obtain ⟨M, hM, hMl⟩ := mk_of_data (Lib.toLowerA (s.data.toList.take 2))
  obtain ⟨U, hU, hUl⟩ := mk_of_data (Lib.toUpperA wl)
  have hUL : (L.data.toList).map upF = U.data.toList := by
    rw [hLl, hUl]
    unfold Lib.toLowerA Lib.toUpperA
    rw [List.map_map]
    refine List.map_congr_left fun c hcm => up_lower c ?_
    have := run_ok hO.run c hcm
    rw [hc] at this
    exact this
  have hT := print_oth_text hO U (by rw [hUl, casePL2, if_pos hc])
  rw [hM] at hT
  have zW : WL.size ≤ 2097152 := by rw [← ofl, hWl]; omega
  have zL : L.size ≤ 2097152 := by rw [← ofl, hLl]; unfold Lib.toLowerA; rw [List.length_map]; omega
  have zM : M.size ≤ 2 := by rw [← ofl, hMl]; unfold Lib.toLowerA; rw [List.length_map, List.length_take]; omega
  have cL : ∀ W, Calls Tryd.prog 28 #[.string WL] W fun e w' => e = .returned (.string L) ∧ Below W.heap.size W w' := fun W => by
    have := small_ref WL W (by omega)
    rw [hWl] at this
    rw [← hL]
    exact this
  have cM : ∀ W, Calls Tryd.prog 28 #[.string (s.extract 0 2)] W fun e w' => e = .returned (.string M) ∧ Below W.heap.size W w' := fun W => by
    have := small_ref (s.extract 0 2) W (by rw [ByteArray.size_extract]; omega)
    rw [extract_take] at this
    rw [← hM]
    exact this
  have hPP : ({ (⟨16, mkB wl, false, emp, false, false, emp, big⟩ : Lit) with base := b } : Lit) = ⟨b, WL, false, emp, false, false, emp, big⟩ := by rw [← hW]
  rw [hPP] at hof
  unfold Lit.val Lit.cells at hof
  simp only at hof
  have hEs : (endB big).size ≤ 1 := by cases big <;> decide
  have HO := Lib.hid hof
  have HT := Lib.hid hT
  have CL := Lib.hid cL
  have CM := Lib.hid cM
  generalize hS2 : s.extract 0 2 = S2 at *
  have n10 : ((b : Int) != 10) = true := by rw [bne_iff_ne]; omega
  have n16 : ((b : Int) == 16) = true := by rw [beq_iff_eq]; omega
  have zU : U.size ≤ 2097152 := by rw [← ofl, ← hUL, List.length_map, ofl]; exact zL
  have HUL := Lib.hid hUL
  clear hof hT cL cM hPP hW hWl hL hLl hM hMl hU hUl hUL hO hb hb2 hc hlen
  go_enter Tryd.func11, Tryd.ntmps11
  go_upto_region 2 with (go_at_call 26; refine (HO.out _).mono ?_; rintro e w1 ⟨rfl, hb1⟩)
  have hP : ParAt (w1.alloc (.cells (Lit.cells ⟨b, WL, false, emp, false, false, emp, big⟩) 49)) w1.heap.size ⟨b, WL, false, emp, false, false, emp, big⟩ := heap_alloc_new _ _
  have hB : Below w.heap.size w (w1.alloc (.cells (Lit.cells ⟨b, WL, false, emp, false, false, emp, big⟩) 49)) := bel_alloc hb1 _
  have e0 : w1.alloc (.cells (Lit.cells ⟨b, WL, false, emp, false, false, emp, big⟩) 49) = w1.alloc (.cells #[.int .i64 b, .string WL, .bool false, .string emp, .bool false, .bool false, .string emp, .bool big] 49) := rfl
  rw [e0] at hP hB
  generalize w1.alloc (.cells #[.int .i64 b, .string WL, .bool false, .string emp, .bool false, .bool false, .string emp, .bool big] 49) = w2 at *
  generalize w1.heap.size = bp at *
  clear e0 hb1 HO
  have HP := Lib.hid hP
  clear hP
  obtain ⟨c0, c1, c2, c3, c4, c5, c6, c7, f0, f1, f2, f3, f4, f5, f6, f7⟩ := ParAt.facts HP.out
  go_upto_region 6 with (go_at_call 28; refine (CL.out _).mono ?_; rintro e w3 ⟨rfl, hb3⟩)
  have HP3 := Lib.hid (HP.out.below hb3 HP.out.lt)
  have hB3 := bel_next hB hb3
  clear c0 c1 c2 c3 c4 c5 c6 c7 f0 f1 f2 f3 f4 f5 f6 f7 HP hB CL hb3
  obtain ⟨c0, c1, c2, c3, c4, c5, c6, c7, f0, f1, f2, f3, f4, f5, f6, f7⟩ := ParAt.facts HP3.out
  go_upto_region 7 with fail
  have hbb := bytes_below w3 L
  have hbr := brow_new w3 L
  have hcv := Lib.run_convert_string_bytes (P := Tryd.prog) (u := .string) w3 9 53 5 L (by kernel_rfl) (by kernel_rfl) (by kernel_rfl)
  generalize Lib.bytesWorld w3 5 L = w5 at *
  generalize grownCap w3 L.size 0 5 = cp at *
  have HP5 := Lib.hid (HP3.out.below hbb HP3.out.lt)
  have hB5 := bel_next hB3 hbb
  have hg3 : bp < w3.heap.size := HP3.out.lt
  have hw3 : w.heap.size ≤ w3.heap.size := hB3.size
  clear c0 c1 c2 c3 c4 c5 c6 c7 f0 f1 f2 f3 f4 f5 f6 f7 HP3 hB3 hbb
  generalize w3.heap.size = g at *
  have HBR := Lib.hid hbr
  clear hbr
  go_upto_region 8 with fail
  clear hcv
  go_upto_block 0 with fail
  go_cut [8] (fun t wx => BRow wx g g U.data.toList ∧ ParAt wx bp ⟨b, WL, false, emp, false, false, emp, big⟩ ∧ Below w.heap.size w wx)
  case first =>
    go_wp2_with fail
    go_loopw [8] (fun i wr => ∃ k : Nat, k ≤ L.size ∧ i = .int .i64 k ∧ BRow wr g g (mixF upF L.data.toList k) ∧ ParAt wr bp ⟨b, WL, false, emp, false, false, emp, big⟩ ∧ Below w.heap.size w wr) (fun i _ => L.size - (intOf i).toNat)
    case atStart => exact ⟨0, Nat.zero_le _, rfl, HBR.out, HP5.out, hB5⟩
    case round =>
      obtain ⟨k, hk, rfl, hrow, hpar, hbel⟩ := hrel
      have hml := mixF_len upF L.data.toList k
      rw [ofl] at hml
      have HPR := Lib.hid hpar
      clear hpar HBR HP5 hB5
      by_cases hlt : k < L.size
      · have hlt2 : k < L.data.toList.length := by rw [ofl]; exact hlt
        have hcell := hrow.cell k (by omega)
        rw [mixF_at _ _ _ hlt2] at hcell
        have hfz := hrow.fz k (by omega)
        have hsk : L.data.toList[k] = L[k] := rfl
        have hst := mixF_step upF L.data.toList k hlt2
        have hsame := mixF_same upF L.data.toList k hlt2
        rw [hsk] at hcell hst hsame
        unfold upF at hst hsame
        have hu := L[k].toNat_lt
        have hset := fun c => hrow.set k (by omega) c
        have hps := fun v => HPR.out.below ((Below.refl g wr).setCell (p := ⟨g, k, none⟩) (Nat.le_refl _) v) hg3
        by_cases h1 : 97 ≤ L[k].toNat
        · rw [if_pos h1] at hst
          have hset2 := hset (L[k] - 32)
          have hst2 : (mixF upF L.data.toList k).set k (L[k] - 32) = mixF upF L.data.toList (k + 1) := hst
          rw [hst2, sub32 _ h1] at hset2
          have e32 : ((L[k].toNat - 32 : Nat) : Int) = (L[k].toNat : Int) - 32 := by omega
          rw [e32] at hset2
          have HS := Lib.hid hset2
          have HPS := Lib.hid hps
          have n95 : (((L[k].toNat : Nat) : Int) != 95) = true := by rw [bne_iff_ne]; omega
          clear hst hst2 hsame hset hset2 hrow hsk hml hps e32
          go_wp2_with fail
          go_roundw
          case rel => exact ⟨k + 1, by omega, by go_num, HS.out, HPS.out _, hbel.setCell hw3 _⟩
          case measure => simp [intOf]; omega
        · rw [if_neg h1] at hsame
          have HS := Lib.hid (show mixF upF L.data.toList k = mixF upF L.data.toList (k + 1) from hsame rfl)
          have HR2 := Lib.hid hrow
          clear hst hsame hset hrow hsk hml hps
          go_wp2_with fail
          go_roundw
          case rel => exact ⟨k + 1, by omega, by go_num, by rw [← HS.out]; exact HR2.out, HPR.out, hbel⟩
          case measure => simp [intOf]; omega
      · obtain rfl : k = L.size := by omega
        have HT2 := Lib.hid (show mixF upF L.data.toList L.size = U.data.toList by rw [← ofl, mixF_done]; exact HUL.out)
        rw [HT2.out] at hrow
        clear hml
        go_wp2_with fail
        go_meet
        exact ⟨hrow, HPR.out, hbel⟩
  case rest =>
  clear HBR HP5 hB5
  obtain ⟨hrow, hpar, hB3⟩ := hcut
  have hUs : U.data.toList.length = L.size := by rw [← HUL.out, List.length_map, ofl]
  have hstr := brow_string (cap := cp) hrow
  rw [hUs] at hstr
  have hUU : (⟨U.data.toList.toArray⟩ : ByteArray) = U := byteArray_ext U _ rfl
  rw [hUU] at hstr
  have HP3 := Lib.hid hpar
  clear hrow hpar hUs hUU HUL
  obtain ⟨c0, c1, c2, c3, c4, c5, c6, c7, f0, f1, f2, f3, f4, f5, f6, f7⟩ := ParAt.facts HP3.out
  go_upto_region 16 with (go_at_call 28; refine (CM.out _).mono ?_; rintro e w4 ⟨rfl, hb4⟩)
  have HP4 := Lib.hid (HP3.out.below hb4 HP3.out.lt)
  have hB4 := bel_next hB3 hb4
  clear c0 c1 c2 c3 c4 c5 c6 c7 f0 f1 f2 f3 f4 f5 f6 f7 HP3 hB3 CM hb4
  obtain ⟨c0, c1, c2, c3, c4, c5, c6, c7, f0, f1, f2, f3, f4, f5, f6, f7⟩ := ParAt.facts HP4.out
  cases big with
  | true =>
    go_wp2_with fail
    go_ret2
    refine ⟨?_, hB4⟩
    rw [HT.out.1, HT.out.2]
    rfl
  | false =>
    go_wp2_with fail
    go_ret2
    refine ⟨?_, hB4⟩
    rw [HT.out.1, HT.out.2, show endB false = ⟨#[]⟩ from rfl]
    have e : M ++ U ++ ⟨#[]⟩ = M ++ U := ba_ext (by simp)
    rw [e]
    rfl
end Go.Proofs.YthnchejhcmpipaaDoor
