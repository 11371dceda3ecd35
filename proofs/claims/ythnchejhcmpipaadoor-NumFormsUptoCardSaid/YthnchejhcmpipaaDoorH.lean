/- Contract of num.more where the small number is added to a number that is not below 0. Conditions: canonical digits of at most 2^24 bytes; the small number is at most 2^22. -/
import Derived.Test.YthnchejhcmpipaaDoorG
import Derived.OwnWalk
namespace Go.Proofs.YthnchejhcmpipaaDoor
open Go.RowKit

theorem BRow.set {w : World} {B g : Nat} {l : List UInt8} (h : BRow w B g l) (k : Nat) (hk : k < l.length) (c : UInt8) : BRow (w.setCell ⟨g, k, none⟩ (.int .u8 (c.toNat : Int))) B g (l.set k c) := by
  refine ⟨fun j hj => ?_, fun j hj => ?_, h.ge⟩
  · rw [List.length_set] at hj
    by_cases e : k = j
    · subst e
      rw [World.cell?_setCell_same _ _ _ (h.cell k hk)]
      simp
    · rw [World.cell?_setCell_other _ _ _ _ (fun e' => e (congrArg Addr.off e')), h.cell j hj, List.getElem_set_ne e]
  · rw [World.frozen?_setCell]
    rw [List.length_set] at hj
    exact h.fz j hj
theorem brow_string {w : World} {B g cap : Nat} {l : List UInt8} (h : BRow w B g l) : (convert 53 9 (.slice (some ⟨g, 0, none⟩) l.length cap)).run Tryd.prog w = .ok (.string ⟨l.toArray⟩) w := by
  refine run_convert_bytes_back w 53 9 5 ⟨g, 0, none⟩ cap l (by kernel_rfl) (by kernel_rfl) (by kernel_rfl) fun j hj => ?_
  have := h.cell j hj
  have hadd : (⟨g, 0, none⟩ : Addr).add j = ⟨g, j, none⟩ := by unfold Addr.add; split <;> simp_all
  rw [hadd]
  exact this
theorem one_cells (l : List UInt8) : ∀ u ∈ Lib.byteCells l, u.oneCell' = true := by
  intro u hu
  simp only [Lib.byteCells, List.mem_map] at hu
  obtain ⟨b, _, rfl⟩ := hu
  rfl
theorem nil_or_snoc (l : List UInt8) : l = [] ∨ ∃ m c, l = m ++ [c] := by
  rcases List.eq_nil_or_concat l with h | ⟨m, c, h⟩
  · exact .inl h
  · exact .inr ⟨m, c, by rw [h, List.concat_eq_append]⟩
theorem infoByte : (Tryd.prog.info? 5).map (fun i => (i.zero, i.size, i.bytes)) = some (some (.int .u8 0), 1, 1) := by kernel_rfl
def AddS (w wr : World) (p b : Nat) (D : List UInt8) (n v i : Value) : Prop :=
  ∃ (m g cap : Nat) (hi lo : List UInt8), n = .int .i64 m ∧ m ≤ 4194304 ∧ hi.length + lo.length + m ≤ 20971520 ∧ v = .slice (some ⟨g, 0, none⟩) (hi ++ lo).length cap ∧ i = .int .i64 ((hi.length : Int) - 1) ∧ BRow wr w.heap.size g (hi ++ lo) ∧ AddR p b D hi lo m ∧ Below w.heap.size w wr

set_option maxRecDepth 20000 in
set_option maxHeartbeats 1000000 in
theorem more_add (s : ByteArray) (b : Nat) (w : World) (hs : s.size ≤ 16777216) (hb : b ≤ 4194304) (hD : canonD s.data.toList) :
    Calls Tryd.prog 24 #[.string s, .bool false, .int .i64 b] w fun e w' => e = .returned (.tuple #[.string ⟨(decL (valN s.data.toList + b)).toArray⟩, .bool false]) ∧ Below w.heap.size w w' := by
  obtain ⟨i0, hi0, hz0, hz1, hz2⟩ := info_parts infoByte
  have HD := Lib.hid hD
  have hbb := bytes_below w s
  have hbr := brow_new w s
  have hcv := Lib.run_convert_string_bytes (P := Tryd.prog) (u := .string) w 9 53 5 s (by kernel_rfl) (by kernel_rfl) (by kernel_rfl)
  generalize Lib.bytesWorld w 5 s = w1 at *
  generalize grownCap w s.size 0 5 = cp at *
  have HB := Lib.hid hbb
  have HR := Lib.hid hbr
  clear hD hbb hbr
  go_enter Tryd.func24, Tryd.ntmps24
  go_wp2_with fail
  go_loopw [2, 10, 11] (fun n v i wr => AddS w wr (valN s.data.toList) b s.data.toList n v i) (fun n _ i _ => (intOf i + 1).toNat + (intOf n).toNat)
  case atStart =>
    refine ⟨b, w.heap.size, cp, s.data.toList, [], rfl, by omega, by rw [ofl, List.length_nil]; omega, by rw [List.append_nil, ofl], by rw [ofl], by rw [List.append_nil]; exact HR.out, addR_start _ _ HD.out.2.1, HB.out⟩
  case round =>
    obtain ⟨m, g, cap, hi, lo, rfl, hm, hsum, rfl, rfl, hbr, har, hbel⟩ := hrel
    have HAR := Lib.hid har
    have HBR := Lib.hid hbr
    clear har hbr
    by_cases hm0 : 0 < m
    · rcases nil_or_snoc hi with rfl | ⟨hi', c, rfl⟩
      · have hge := HBR.out.ge
        have hnews : ∀ (j : Nat) (u : Value), (Lib.byteCells lo)[j]? = some u → (wr.alloc (.cells #[.int .u8 48] 5)).cell? ((⟨g, 0, none⟩ : Addr).add j) = some u := fun j u hj => by
          have hjl : j < lo.length := by
            have := (List.getElem?_eq_some_iff.1 hj).1
            simpa [Lib.byteCells] using this
          have hc := HBR.out.cell j hjl
          have hadd : (⟨g, 0, none⟩ : Addr).add j = ⟨g, j, none⟩ := by unfold Addr.add; split <;> simp_all
          have e : u = .int .u8 (lo[j].toNat : Int) := by
            have : (Lib.byteCells lo)[j]? = some (.int .u8 (lo[j].toNat : Int)) := by simp [Lib.byteCells, List.getElem?_eq_getElem hjl]
            rw [this] at hj
            exact (Option.some.inj hj).symm
          have hal : Below wr.heap.size wr (wr.alloc (.cells #[.int .u8 48] 5)) := (Below.refl _ _).alloc (Nat.le_refl _) _
          rw [hadd, hal.cell (World.block_lt_of_cell? _ _ hc), e]
          exact hc
        have HNW := Lib.hid hnews
        rw [List.length_nil, Nat.zero_add] at hsum
        clear hnews
        rw [List.nil_append]
        go_wp2_with (at_builtin; (refine wpList_append_own_at _ rfl _ _ 53 rfl wr.heap.size 5 i0 (.int .u8 0) 1 1 (by kernel_rfl) hi0 hz0 hz1 hz2 rfl (by decide) _ 1 [.int .u8 48] rfl (World.ownsRow_lit wr #[.int .u8 48] 1 (Nat.le_refl _) (by decide) rfl) ⟨g, 0, none⟩ lo.length cap (Lib.byteCells lo) rfl (by simp [Lib.byteCells]) HNW.out (one_cells lo) (by unfold maxLen; omega) (by omega) (by rw [World.size_alloc]; omega) ?_))
        intro v' w2 hown' hgrow _ _
        have hb1 : Below w.heap.size w w2 := by
          refine (hbel.alloc hbel.size _).grown hgrow ?_ ?_
          · rw [World.size_alloc]; have := hbel.size; omega
          · intro k hk
            cases hk
            exact hbel.size
        rcases hown'.2 with ⟨_, h0⟩ | ⟨g2, cap2, cur, rfl, hgb, _⟩
        · omega
        have hbr2 : BRow w2 wr.heap.size g2 (48 :: lo) := BRow.of_own hown' (by rw [List.length_cons]; omega)
        have hcell : w2.cell? ⟨g2, 0, none⟩ = some (.int .u8 48) := hbr2.cell 0 (by simp)
        have hfz : w2.frozen? ⟨g2, 0, none⟩ = false := hbr2.fz 0 (by simp)
        have hbs := hbr2.set 0 (by simp) (digB (m % 10))
        rw [List.set_cons_zero, digB_toNat (Nat.mod_lt _ (by decide))] at hbs
        have HN := Lib.hid (addR_out HAR.out hm0)
        have HBS := Lib.hid hbs
        have HSZ := Lib.hid hbel.size
        clear hown' hgrow hbr2 hbs hbel HNW HBR hge
        go_wp2_with fail
        go_roundw
        case rel =>
          have hv : (48 + (m : Int) % 10) = ((48 + m % 10 : Nat) : Int) := by omega
          rw [hv]
          refine ⟨m / 10, g2, cap2, [], digB (m % 10) :: lo, ?_, by omega, ?_, ?_, rfl, ⟨HBS.out.cell, HBS.out.fz, Nat.le_trans HSZ.out HBS.out.ge⟩, HN.out, hb1.setCell (Nat.le_trans HSZ.out hgb) _⟩
          · congr 1
          · rw [List.length_cons, List.length_nil]; omega
          · congr 1; rw [List.nil_append, List.length_cons]; omega
        case measure => simp [intOf]; omega
      · have hlen : (hi' ++ [c] ++ lo).length = hi'.length + 1 + lo.length := by simp; omega
        have hk : hi'.length < (hi' ++ [c] ++ lo).length := by omega
        have hce : (hi' ++ [c] ++ lo)[hi'.length] = c := by simp
        have hcell := HBR.out.cell hi'.length hk
        have hfz := HBR.out.fz hi'.length hk
        rw [hce] at hcell
        have hc := (HD.out.1 c (by obtain ⟨t, ht⟩ := HAR.out.pre; rw [ht]; simp))
        have hset : (hi' ++ [c] ++ lo).set hi'.length (digB ((m + (c.toNat - 48)) % 10)) = hi' ++ digB ((m + (c.toNat - 48)) % 10) :: lo := by simp
        have hbs := HBR.out.set hi'.length hk (digB ((m + (c.toNat - 48)) % 10))
        rw [hset, digB_toNat (Nat.mod_lt _ (by decide))] at hbs
        have HN := Lib.hid (addR_in HAR.out hm0)
        have HBS := Lib.hid hbs
        have hsz : (hi' ++ [c] ++ lo).length = (hi' ++ digB ((m + (c.toNat - 48)) % 10) :: lo).length := by simp
        have HSZ := Lib.hid hsz
        have hge := HBR.out.ge
        rw [List.length_append, List.length_singleton] at hsum
        clear hset hbs hce hsz
        rw [hlen] at hk ⊢
        go_wp2_with fail
        go_roundw
        case rel =>
          have hv : (48 + ((m : Int) + ((c.toNat : Int) - 48)) % 10) = ((48 + (m + (c.toNat - 48)) % 10 : Nat) : Int) := by omega
          rw [hv]
          refine ⟨(m + (c.toNat - 48)) / 10, g, cap, hi', digB ((m + (c.toNat - 48)) % 10) :: lo, ?_, by omega, ?_, ?_, rfl, HBS.out, HN.out, hbel.setCell hge _⟩
          · congr 1; omega
          · rw [List.length_cons]; omega
          · congr 1; rw [List.length_append, List.length_cons]; omega
        case measure => simp [intOf]; omega
    · obtain rfl : m = 0 := by omega
      have hstr := brow_string (cap := cap) HBR.out
      rw [List.length_append] at hstr ⊢
      have HF := Lib.hid (addR_done HAR.out HD.out)
      go_wp2_with fail
      go_ret2
      exact ⟨by rw [HF.out]; rfl, hbel⟩
end Go.Proofs.YthnchejhcmpipaaDoor
