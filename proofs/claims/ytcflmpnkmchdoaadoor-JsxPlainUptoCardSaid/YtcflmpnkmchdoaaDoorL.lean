/- The contract of the reference's Entities (package platenref7): it computes what entities says. Condition: at most 2^24 bytes. -/
import Derived.Test.YtcflmpnkmchdoaaDoorS
import Derived.Test.YtcflmpnkmchdoaaDoorD
import Derived.Test.YtcflmpnkmchdoaaDoorI
import Derived.Maps.AppendAt
import Derived.Laws.Cover4
import Derived.Stop.FmtQuoteTie
import Derived.Lib.AppendStr
import Derived.Laws.IdiomStrings
import Derived.Laws.BytesArg
namespace Go.Proofs.YtcflmpnkmchdoaaDoor
open Go.RowKit

theorem encode_bytes (r : Nat) : (Utf8.encode (r : Int)).data.toList = Lib.encodeRune r := by
  have h := Extern.FmtText.encode_eq r
  unfold Lib.encodeRune
  rw [← h]
  unfold Extern.FmtText.nums
  rw [List.map_map]
  conv => lhs; rw [← List.map_id (Utf8.encode (r : Int)).data.toList]
  apply List.map_congr_left
  intro x _
  show x = (((x.toNat : Nat) : Int).toNat).toUInt8
  simp
theorem rune_string (w : World) (z : Int) :
    (convert 37 9 (.slice (some ⟨w.heap.size, 0, none⟩) 1 1)).run Tryd.prog (w.alloc (.cells #[.int .i32 z] 21)) = .ok (.string (Utf8.encode z)) (w.alloc (.cells #[.int .i32 z] 21)) := by
  have h := run_convert_runes (P := Tryd.prog) (w.alloc (.cells #[.int .i32 z] 21)) 37 9 21 ⟨w.heap.size, 0, none⟩ 1 1 [z] (by simp) (by kernel_rfl) (by kernel_rfl) (by kernel_rfl) (fun j hj => by
    have h := cell_one_new w (.int .i32 z) 21 j (.int .i32 z) (by simp at hj; subst hj; rfl)
    simp at hj
    subst hj
    exact h)
  rw [h]
  have e : runesBytes (List.take 1 [z]) = Utf8.encode z := by
    show ByteArray.empty ++ Utf8.encode z = _
    simp
  rw [e]
theorem below_push {B : Nat} {a w w1 : World} {o : Obj} {v : Value} {T : TypeId} {n m : Nat} {xs : List Value} (hb : Below B a w) (hB : B ≤ w.heap.size) (ho : w.ownsRow B T m v n xs) (hg : (w.alloc o).grownBy w1 v.ownBlock) : Below B a w1 := by
  refine (hb.alloc hB o).grown hg ?_ ?_
  · rw [World.size_alloc]; omega
  · intro k hk
    rcases ho.2 with ⟨rfl, _⟩ | ⟨g, cap, cur, rfl, h, _⟩
    · cases hk
    · cases hk; exact h
/-- between two rounds. -/
def RefRel (s : ByteArray) (B k : Nat) (w wr : World) (v : Value) : Prop :=
  ∃ (f : Nat) (out : List UInt8), s.size - k ≤ f ∧ out.length ≤ 4 * k ∧ entities s.data.toList = pre out (ents f (s.data.toList.drop k) k) ∧ wr.ownsRow B 5 1 v out.length (Lib.byteCells out) ∧ Below B w wr
/-- what stands behind a & at place k, in the walk's terms. -/
structure AmpR (s : ByteArray) (k n : Nat) : Prop where
  le : k + 1 + n ≤ s.size
  yes : ∀ j, j < n → ∃ hh : k + 1 + j < s.size, (((((s[k + 1 + j]'hh).toNat : Nat) : Int) != 59) = true) ∧ (((((s[k + 1 + j]'hh).toNat : Nat) : Int) != 38) = true)
  no : ∀ hh : k + 1 + n < s.size, (((((s[k + 1 + n]'hh).toNat : Nat) : Int) != 59) = false) ∨ ((((((s[k + 1 + n]'hh).toNat : Nat) : Int) != 59) = true) ∧ (((((s[k + 1 + n]'hh).toNat : Nat) : Int) != 38) = false))
  name : (s.extract (k + 1) (k + 1 + n)).data.toList = refName (s.data.toList.drop (k + 1))
theorem ampR_of (s : ByteArray) (k : Nat) (h : k < s.size) : AmpR s k (refName (s.data.toList.drop (k + 1))).length := by
  have hl : (refName (s.data.toList.drop (k + 1))).length ≤ (s.data.toList.drop (k + 1)).length := (List.takeWhile_sublist _).length_le
  rw [List.length_drop] at hl
  have hz := ofl s
  have key : ∀ c d : UInt8, ((((c.toNat : Nat) : Int) != ((d.toNat : Nat) : Int)) = true) ↔ (c == d) = false := by
    intro c d
    rw [bne_iff_ne, beq_eq_false_iff_ne]
    exact ⟨fun h e => h (by rw [e]), fun h e => h (UInt8.toNat.inj (by omega))⟩
  refine ⟨by omega, fun j hj => ?_, fun hh => ?_, ?_⟩
  · obtain ⟨x, hx, hp⟩ := tw_lt _ _ hj
    have hh : k + 1 + j < s.size := by omega
    rw [List.getElem?_drop, get_data s _ hh] at hx
    cases hx
    simp only [isQ, Bool.and_eq_true, Bool.not_eq_true'] at hp
    exact ⟨hh, (key _ 59).2 hp.1, (key _ 38).2 hp.2⟩
  · have hp := tw_end (p := isQ) (s.data.toList.drop (k + 1)) (s[k + 1 + (refName (s.data.toList.drop (k + 1))).length]'hh) (by
      rw [List.getElem?_drop]
      exact get_data s _ hh)
    simp only [isQ, Bool.and_eq_false_iff, Bool.not_eq_false'] at hp
    generalize s[k + 1 + (refName (s.data.toList.drop (k + 1))).length]'hh = c at *
    by_cases h59 : c = 59
    · left; rw [h59]; rfl
    · right
      refine ⟨(key c 59).2 (by rw [beq_eq_false_iff_ne]; exact h59), ?_⟩
      rcases hp with hp | hp
      · exact absurd (eq_of_beq hp) h59
      · rw [eq_of_beq hp]; rfl
  · rw [Lib.extract_data]
    rw [show k + 1 + (refName (s.data.toList.drop (k + 1))).length - (k + 1) = (refName (s.data.toList.drop (k + 1))).length by omega]
    exact tw_take _
theorem string_own {w : World} {B : Nat} {v : Value} {l : List UInt8} (h : w.ownsRow B 5 1 v l.length (Lib.byteCells l)) : (convert 45 9 v).run Tryd.prog w = .ok (.string ⟨l.toArray⟩) w := by
  have hb := h
  rcases h.2 with ⟨rfl, h0⟩ | ⟨g, cap, cur, rfl, _⟩
  · rw [List.length_eq_zero_iff.1 h0]
    exact run_convert_bytes_nil w 45 5 (by kernel_rfl) (by kernel_rfl) 0 0 9 (by kernel_rfl)
  · refine run_convert_bytes_back w 45 9 5 ⟨g, 0, none⟩ cap l (by kernel_rfl) (by kernel_rfl) (by kernel_rfl) fun j hj => ?_
    refine hb.cells (g := g) rfl j _ ?_
    simp [Lib.byteCells, List.getElem?_eq_getElem hj]

set_option maxRecDepth 100000 in
set_option maxHeartbeats 2000000 in
theorem entities_ref (s : ByteArray) (w : World) (hs : s.size ≤ 16777216) :
    Calls Tryd.prog 10 #[.string s] w fun e w' => e = entsV (entities s.data.toList) ∧ Below w.heap.size w w' := by
  obtain ⟨i0, hi, hz0, hz1, hz2⟩ := info_parts Tryd.infoByte
  go_enter Tryd.func10, Tryd.ntmps10
  go_wp2_with fail
  go_loopw [6, 5] (fun i v wr => ∃ k : Nat, k ≤ s.size ∧ i = .int .i64 k ∧ RefRel s w.heap.size k w wr v) (fun i _ _ => s.size - (intOf i).toNat)
  case atStart => exact ⟨0, Nat.zero_le _, rfl, s.size, [], by omega, by simp, by simp [entities, pre_nil], World.ownsRow_nil _ _ _ _, Below.refl _ _⟩
  case round =>
    obtain ⟨k, hk, rfl, f, out, hf, hol, heq, hown, hbel⟩ := hrel
    have hsz := hbel.size
    by_cases hlt : k < s.size
    · obtain ⟨f, rfl⟩ : ∃ g, f = g + 1 := ⟨f - 1, by omega⟩
      rw [drop_cons s k hlt] at heq
      by_cases h38 : s[k] = 38
      · rw [h38] at heq
        have h1 : (((s[k].toNat : Nat) : Int) != 38) = false := by rw [h38]; rfl
        have HE := Lib.hid heq
        have H38 := Lib.hid h38
        clear heq h38
        have hA := ampR_of s k hlt
        have hLn : (s.data.toList.drop (k + 1)).length = s.size - (k + 1) := by rw [List.length_drop, ofl]
        generalize hN : s.data.toList.drop (k + 1) = l at *
        have hno := ref_no l
        have hyes := ref_yes l
        have HNo := Lib.hid hno
        have HYes := Lib.hid hyes
        clear hno hyes
        generalize hNn : (refName l).length = n at *
        have HNn := Lib.hid hNn
        have HN := Lib.hid hN
        clear hN hNn
        have hle := hA.le
        have HA := Lib.hid hA
        clear hA
        have hln : ∀ hh : k + 1 + n < s.size, l[n]? = some (s[k + 1 + n]'hh) := fun hh => by rw [← HN.out, List.getElem?_drop, get_data s _ hh]
        have HLn := Lib.hid hln
        clear hln
        go_upto_block 2 with fail
        go_cut [7] (fun t wx => t = .int .i64 (k + 1 + n : Nat) ∧ wx = wr)
        case first =>
          clear hown hbel HE hol hf h1 hLn HN HNn hsz HNo HYes HLn
          go_wp2_with fail
          go_loop [7] (fun t => ∃ j : Nat, j ≤ n ∧ t = .int .i64 (k + 1 + j : Nat)) (fun t => s.size - (intOf t).toNat)
          case atStart => exact ⟨0, Nat.zero_le _, by go_num⟩
          case round =>
            obtain ⟨j, hj, rfl⟩ := hrel
            by_cases hjn : j < n
            · obtain ⟨hh, hc1, hc2⟩ := HA.out.yes j hjn
              go_wp2_with fail
              go_round
              case rel => exact ⟨j + 1, by omega, by go_num⟩
              case measure => simp [intOf]; omega
            · obtain rfl : j = n := by omega
              by_cases hh : k + 1 + j < s.size
              · rcases HA.out.no hh with hc1 | ⟨hc1, hc2⟩
                all_goals
                  go_wp2_with fail
                  go_meet
                  exact ⟨by go_num, rfl⟩
              · go_wp2_with fail
                go_meet
                exact ⟨by go_num, rfl⟩
        case rest =>
          obtain ⟨rfl, hwc⟩ := hcut
          subst hwc
          by_cases hbad : l[n]? ≠ some 59 ∨ n = 0
          · have hno := HNo.out (hbad.imp id fun h => List.length_eq_zero_iff.1 (by rw [HNn.out, h]))
            have HE2 := Lib.hid (show entities s.data.toList = pre (out ++ [s[k]]) (ents f (s.data.toList.drop (k + 1)) (k + 1)) by rw [HE.out, ents_none _ _ _ (by rw [hno]) (by rw [hno]), pre_pre, H38.out, HN.out])
            clear hno
            have hcase : (¬ k + 1 + n < s.size) ∨ (∃ hh : k + 1 + n < s.size, ((((s[k + 1 + n]'hh).toNat : Nat) : Int) != 59) = true) ∨ (∃ hh : k + 1 + n < s.size, ((((s[k + 1 + n]'hh).toNat : Nat) : Int) != 59) = false ∧ n = 0) := by
              by_cases hh : k + 1 + n < s.size
              · rcases HA.out.no hh with h | h
                · refine .inr (.inr ⟨hh, h, ?_⟩)
                  rcases hbad with hb | hb
                  · refine absurd ?_ hb
                    rw [HLn.out hh]
                    rw [bne_eq_false_iff_eq] at h
                    have h59 : (59 : UInt8).toNat = 59 := rfl
                    exact congrArg some (UInt8.toNat.inj (by omega))
                  · exact hb
                · exact .inr (.inl ⟨hh, h.1⟩)
              · exact .inl hh
            clear hbad
            rcases hcase with hto | ⟨hto, h59⟩ | ⟨hto, h59, hn0⟩
            · have hto' : s.size ≤ k + 1 + n := by omega
              go_wp2_with (at_builtin; refine wpList_append_own_at _ rfl _ _ 45 rfl w.heap.size 5 i0 (.int .u8 0) 1 1 (by kernel_rfl) hi hz0 hz1 hz2 rfl (by decide) _ _ _ rfl (hown.alloc _) ⟨wc.heap.size, 0, none⟩ 1 1 [.int .u8 s[k].toNat] rfl rfl (cell_one_new _ _ _) (fun u hu => by simp at hu; subst hu; rfl) (by unfold maxLen; omega) (by omega) (by rw [World.size_alloc]; omega) ?_)
              intro v' w1 hown' hgrow _ _
              have hb1 : Below w.heap.size w w1 := below_push hbel (by omega) hown hgrow
              have ho1 : w1.ownsRow w.heap.size 5 1 v' (out ++ [s[k]]).length (Lib.byteCells (out ++ [s[k]])) := by rw [Lib.byteCells_append]; simpa [Lib.byteCells] using hown'
              have HO := Lib.hid ho1
              clear hown hown' hgrow ho1 hbel
              go_wp2_with fail
              go_roundw
              case rel => exact ⟨k + 1, by omega, by go_num, f, out ++ [s[k]], by omega, by simp; omega, HE2.out, HO.out, hb1⟩
              case measure => simp [intOf]; omega
            · go_wp2_with (at_builtin; refine wpList_append_own_at _ rfl _ _ 45 rfl w.heap.size 5 i0 (.int .u8 0) 1 1 (by kernel_rfl) hi hz0 hz1 hz2 rfl (by decide) _ _ _ rfl (hown.alloc _) ⟨wc.heap.size, 0, none⟩ 1 1 [.int .u8 s[k].toNat] rfl rfl (cell_one_new _ _ _) (fun u hu => by simp at hu; subst hu; rfl) (by unfold maxLen; omega) (by omega) (by rw [World.size_alloc]; omega) ?_)
              intro v' w1 hown' hgrow _ _
              have hb1 : Below w.heap.size w w1 := below_push hbel (by omega) hown hgrow
              have ho1 : w1.ownsRow w.heap.size 5 1 v' (out ++ [s[k]]).length (Lib.byteCells (out ++ [s[k]])) := by rw [Lib.byteCells_append]; simpa [Lib.byteCells] using hown'
              have HO := Lib.hid ho1
              clear hown hown' hgrow ho1 hbel
              go_wp2_with fail
              go_roundw
              case rel => exact ⟨k + 1, by omega, by go_num, f, out ++ [s[k]], by omega, by simp; omega, HE2.out, HO.out, hb1⟩
              case measure => simp [intOf]; omega
            · subst hn0
              go_wp2_with (at_builtin; refine wpList_append_own_at _ rfl _ _ 45 rfl w.heap.size 5 i0 (.int .u8 0) 1 1 (by kernel_rfl) hi hz0 hz1 hz2 rfl (by decide) _ _ _ rfl (hown.alloc _) ⟨wc.heap.size, 0, none⟩ 1 1 [.int .u8 s[k].toNat] rfl rfl (cell_one_new _ _ _) (fun u hu => by simp at hu; subst hu; rfl) (by unfold maxLen; omega) (by omega) (by rw [World.size_alloc]; omega) ?_)
              intro v' w1 hown' hgrow _ _
              have hb1 : Below w.heap.size w w1 := below_push hbel (by omega) hown hgrow
              have ho1 : w1.ownsRow w.heap.size 5 1 v' (out ++ [s[k]]).length (Lib.byteCells (out ++ [s[k]])) := by rw [Lib.byteCells_append]; simpa [Lib.byteCells] using hown'
              have HO := Lib.hid ho1
              clear hown hown' hgrow ho1 hbel
              go_wp2_with fail
              go_roundw
              case rel => exact ⟨k + 1, by omega, by go_num, f, out ++ [s[k]], by omega, by simp; omega, HE2.out, HO.out, hb1⟩
              case measure => simp [intOf]; omega
          · obtain ⟨hb59, hn0⟩ : l[n]? = some 59 ∧ n ≠ 0 := ⟨Classical.byContradiction fun h => hbad (.inl h), fun h => hbad (.inr h)⟩
            clear hbad
            have hto : k + 1 + n < s.size := by
              rcases Nat.lt_or_ge (k + 1 + n) s.size with h | h
              · exact h
              · rw [List.getElem?_eq_none (by omega)] at hb59; cases hb59
            have h59 : ((((s[k + 1 + n]'hto).toNat : Nat) : Int) != 59) = false := by
              rw [HLn.out hto] at hb59
              rw [Option.some.inj hb59]; rfl
            obtain ⟨hy1, hy2⟩ := HYes.out hb59
            have hq : (((k : Int) + 1 + (n : Int)) == (k : Int) + 1) = false := by rw [beq_eq_false_iff_ne]; omega
            have HTn := Lib.hid HA.out.name
            generalize hT : s.extract (k + 1) (k + 1 + n) = T at *
            have hTl : T.data.toList = refName l := by rw [HTn.out, HN.out]
            have hTs : T.size = n := by rw [← ofl, hTl, HNn.out]
            have hT0 : 0 < T.size := by omega
            have hEnt := entity_ref T wc
            have hNum := fun W => number_ref T W hT0 (by omega)
            rw [← hTl] at hy1 hy2
            have hdrop : l.drop (n + 1) = s.data.toList.drop (k + 1 + n + 1) := by rw [← HN.out, List.drop_drop]; congr 1
            have HT := Lib.hid hEnt
            have HNum := Lib.hid hNum
            have HY1 := Lib.hid hy1
            have HY2 := Lib.hid hy2
            have HTl := Lib.hid hTl
            have HD := Lib.hid hdrop
            clear hEnt hNum hy1 hy2 hTl hTs hdrop hb59
            have h35 : (((((T[0]'hT0).toNat : Nat) : Int) == 35) = true ∧ ∃ q, T.data.toList = 35 :: q) ∨ (((((T[0]'hT0).toNat : Nat) : Int) == 35) = false ∧ T.data.toList.head? ≠ some 35) := by
              have hg := get_data T 0 hT0
              have h35 : (35 : UInt8).toNat = 35 := rfl
              by_cases hc : T[0]'hT0 = 35
              · left
                refine ⟨by rw [hc]; rfl, ?_⟩
                cases e : T.data.toList with
                | nil => rw [e] at hg; cases hg
                | cons c q => rw [e] at hg; simp at hg; exact ⟨q, by rw [hg, hc]⟩
              · right
                refine ⟨by rw [beq_eq_false_iff_ne]; intro e; exact hc (UInt8.toNat.inj (by omega)), ?_⟩
                rw [List.head?_eq_getElem?, hg]
                intro e
                exact hc (Option.some.inj e)
            have hnl := named_le T.data.toList
            have hzg := numZ_ge T.data.toList
            have hzl := numZ_le T.data.toList
            rcases h35 with ⟨h35, q, hTq⟩ | ⟨h35, hTh⟩
            · obtain ⟨he, hv⟩ := entR_35 q
              have hn35 := named_35 q
              rw [← hTq] at he hv hn35
              rw [he] at HY1 HY2
              generalize hx : numZ T.data.toList = x at *
              have HX := Lib.hid hx
              rw [hn35] at HT
              have HV := Lib.hid hv
              have HTq := Lib.hid hTq
              clear hx hn35 hv hTq he hnl
              go_upto_region 15 with (go_at_call 26; refine HT.out.mono ?_; rintro e w2 ⟨rfl, hbe⟩)
              have hbel2 : Below w.heap.size w w2 := hbel.trans (hbe.mono hsz)
              have hown2 := row_below hown hbe
              have hsz2 := hbel2.size
              clear hbel hown hbe hsz HT
              have hbel := hbel2
              have hown := hown2
              have hsz := hsz2
              clear hbel2 hown2 hsz2
              by_cases hx1 : 1114111 < x
              · have hb := HY1.out
                rw [show (x == -1) = false by rw [beq_eq_false_iff_ne]; omega, show decide (x ≤ 1114111) = false by rw [decide_eq_false_iff_not]; omega] at hb
                have HB := Lib.hid (show entities s.data.toList = .inl k by rw [HE.out, ents_bad _ _ _ (by rw [hb]; rfl)]; rfl)
                clear hb
                go_wp2_with (go_at_call 27; refine (HNum.out _).mono ?_; rintro e w' ⟨rfl, rfl⟩)
                go_ret3
                exact ⟨by rw [HB.out]; rfl, hbel⟩
              by_cases hx2 : 55296 ≤ x ∧ x ≤ 57343
              · obtain ⟨hx2, hx3⟩ := hx2
                have hb := HY1.out
                rw [show (x == -1) = false by rw [beq_eq_false_iff_ne]; omega, show decide (55296 ≤ x) = true by rw [decide_eq_true_iff]; omega, show decide (x ≤ 57343) = true by rw [decide_eq_true_iff]; omega] at hb
                have HB := Lib.hid (show entities s.data.toList = .inl k by rw [HE.out, ents_bad _ _ _ (by rw [hb]; simp)]; rfl)
                clear hb
                go_wp2_with (go_at_call 27; refine (HNum.out _).mono ?_; rintro e w' ⟨rfl, rfl⟩)
                go_ret3
                exact ⟨by rw [HB.out]; rfl, hbel⟩
              have hx4 : x < 55296 ∨ 57343 < x := by omega
              clear hx2
              by_cases hx0 : x = -1
              · have hb := HY1.out
                rw [hx0] at hb
                have HE2 := Lib.hid (show entities s.data.toList = pre (out ++ [s[k]]) (ents f (s.data.toList.drop (k + 1)) (k + 1)) by rw [HE.out, ents_none _ _ _ (by rw [hb]; rfl) (by rw [hb]; rfl), pre_pre, H38.out, HN.out])
                subst hx0
                clear hb HY1 HY2
                go_wp2_with (first | (go_at_call 27; refine (HNum.out _).mono ?_; rintro e w' ⟨rfl, rfl⟩) | (at_builtin; refine wpList_append_own_at _ rfl _ _ 45 rfl w.heap.size 5 i0 (.int .u8 0) 1 1 (by kernel_rfl) hi hz0 hz1 hz2 rfl (by decide) _ _ _ rfl (hown.alloc _) ⟨w2.heap.size, 0, none⟩ 1 1 [.int .u8 s[k].toNat] rfl rfl (cell_one_new _ _ _) (fun u hu => by simp at hu; subst hu; rfl) (by unfold maxLen; omega) (by omega) (by rw [World.size_alloc]; omega) ?_))
                intro v' w1 hown' hgrow _ _
                have hb1 : Below w.heap.size w w1 := below_push hbel (by omega) hown hgrow
                have ho1 : w1.ownsRow w.heap.size 5 1 v' (out ++ [s[k]]).length (Lib.byteCells (out ++ [s[k]])) := by rw [Lib.byteCells_append]; simpa [Lib.byteCells] using hown'
                have HO := Lib.hid ho1
                clear hown hown' hgrow ho1 hbel
                go_wp2_with fail
                go_roundw
                case rel => exact ⟨k + 1, by omega, by go_num, f, out ++ [s[k]], by omega, by simp; omega, HE2.out, HO.out, hb1⟩
                case measure => simp [intOf]; omega
              · have hb := HY1.out
                have e1 : (x == -1) = false := by rw [beq_eq_false_iff_ne]; exact hx0
                have e2 : decide (x ≤ 1114111) = true := by rw [decide_eq_true_iff]; omega
                have e3 : (decide (55296 ≤ x) && decide (x ≤ 57343)) = false := by rw [Bool.and_eq_false_iff, decide_eq_false_iff_not, decide_eq_false_iff_not]; omega
                rw [e1, e2, e3] at hb
                have hy := HY2.out (by rw [e1]; rfl)
                have hv := HV.out hx0
                obtain ⟨E, hE⟩ : ∃ E, E = Utf8.encode x := ⟨_, rfl⟩
                have hEl : E.data.toList = Lib.encodeRune (entAt l).1 := by rw [hE, ← hv, encode_bytes, hy.1]
                have HE2 := Lib.hid (show entities s.data.toList = pre (out ++ E.data.toList) (ents f (s.data.toList.drop (k + 1 + n + 1)) (k + 1 + n + 1)) by
                  rw [HE.out, ents_is _ _ _ (by rw [hb]; rfl) (by rw [hb]; rfl), pre_pre, hEl, hy.2, HTl.out, HNn.out, HD.out]
                  congr 2; omega)
                have HErune := Lib.hid hE
                have hx5 : 0 ≤ x := by omega
                clear hb hy hv hE hEl e1 e2 e3 hx0 HY1 HY2
                rcases hx4 with hx4 | hx4
                · have hcv : (convert 37 9 (.slice (some ⟨w2.heap.size, 0, none⟩) 1 1)).run Tryd.prog (w2.alloc (.cells #[.int .i32 x] 21)) = .ok (.string E) (w2.alloc (.cells #[.int .i32 x] 21)) := by
                    rw [HErune.out]; exact rune_string w2 x
                  have hes : E.size ≤ 4 := by rw [HErune.out]; exact encode_size_le _
                  go_wp2_with (first | (go_at_call 27; refine (HNum.out _).mono ?_; rintro e w' ⟨rfl, rfl⟩) | (at_builtin; refine Lib.wpList_append_own_string _ rfl _ _ 45 9 rfl w.heap.size 5 i0 (by kernel_rfl) (by kernel_rfl) hi hz0 hz1 hz2 _ _ _ rfl (hown.alloc _) E rfl (by unfold maxLen; omega) (by omega) (by rw [World.size_alloc]; omega) ?_))
                  intro v' w1 hown' hgrow _
                  have hb1 : Below w.heap.size w w1 := below_push hbel (by omega) hown hgrow
                  have ho1 : w1.ownsRow w.heap.size 5 1 v' (out ++ E.data.toList).length (Lib.byteCells (out ++ E.data.toList)) := by rw [Lib.byteCells_append, List.length_append, ofl]; exact hown'
                  have HO := Lib.hid ho1
                  clear hown hown' hgrow ho1 hbel hcv
                  go_wp2_with fail
                  go_roundw
                  case rel => exact ⟨k + 1 + n + 1, by omega, by go_num, f, out ++ E.data.toList, by omega, by rw [List.length_append, ofl]; omega, HE2.out, HO.out, hb1⟩
                  case measure => simp [intOf]; omega
                · have hcv : (convert 37 9 (.slice (some ⟨w2.heap.size, 0, none⟩) 1 1)).run Tryd.prog (w2.alloc (.cells #[.int .i32 x] 21)) = .ok (.string E) (w2.alloc (.cells #[.int .i32 x] 21)) := by
                    rw [HErune.out]; exact rune_string w2 x
                  have hes : E.size ≤ 4 := by rw [HErune.out]; exact encode_size_le _
                  go_wp2_with (first | (go_at_call 27; refine (HNum.out _).mono ?_; rintro e w' ⟨rfl, rfl⟩) | (at_builtin; refine Lib.wpList_append_own_string _ rfl _ _ 45 9 rfl w.heap.size 5 i0 (by kernel_rfl) (by kernel_rfl) hi hz0 hz1 hz2 _ _ _ rfl (hown.alloc _) E rfl (by unfold maxLen; omega) (by omega) (by rw [World.size_alloc]; omega) ?_))
                  intro v' w1 hown' hgrow _
                  have hb1 : Below w.heap.size w w1 := below_push hbel (by omega) hown hgrow
                  have ho1 : w1.ownsRow w.heap.size 5 1 v' (out ++ E.data.toList).length (Lib.byteCells (out ++ E.data.toList)) := by rw [Lib.byteCells_append, List.length_append, ofl]; exact hown'
                  have HO := Lib.hid ho1
                  clear hown hown' hgrow ho1 hbel hcv
                  go_wp2_with fail
                  go_roundw
                  case rel => exact ⟨k + 1 + n + 1, by omega, by go_num, f, out ++ E.data.toList, by omega, by rw [List.length_append, ofl]; omega, HE2.out, HO.out, hb1⟩
                  case measure => simp [intOf]; omega
            · have he := entR_not35 _ hTh
              rw [he] at HY1 HY2
              generalize named T.data.toList = r at *
              clear he hTh hzg hzl
              go_upto_region 15 with (go_at_call 26; refine HT.out.mono ?_; rintro e w2 ⟨rfl, hbe⟩)
              have hbel2 : Below w.heap.size w w2 := hbel.trans (hbe.mono hsz)
              have hown2 := row_below hown hbe
              have hsz2 := hbel2.size
              clear hbel hown hbe hsz HT
              have hbel := hbel2
              have hown := hown2
              have hsz := hsz2
              clear hbel2 hown2 hsz2
              by_cases hr0 : r = 0
              · have hb := HY1.out
                rw [hr0] at hb
                have HE2 := Lib.hid (show entities s.data.toList = pre (out ++ [s[k]]) (ents f (s.data.toList.drop (k + 1)) (k + 1)) by rw [HE.out, ents_none _ _ _ (by rw [hb]) (by rw [hb]; rfl), pre_pre, H38.out, HN.out])
                subst hr0
                clear hb HY1 HY2
                go_wp2_with (at_builtin; refine wpList_append_own_at _ rfl _ _ 45 rfl w.heap.size 5 i0 (.int .u8 0) 1 1 (by kernel_rfl) hi hz0 hz1 hz2 rfl (by decide) _ _ _ rfl (hown.alloc _) ⟨w2.heap.size, 0, none⟩ 1 1 [.int .u8 s[k].toNat] rfl rfl (cell_one_new _ _ _) (fun u hu => by simp at hu; subst hu; rfl) (by unfold maxLen; omega) (by omega) (by rw [World.size_alloc]; omega) ?_)
                intro v' w1 hown' hgrow _ _
                have hb1 : Below w.heap.size w w1 := below_push hbel (by omega) hown hgrow
                have ho1 : w1.ownsRow w.heap.size 5 1 v' (out ++ [s[k]]).length (Lib.byteCells (out ++ [s[k]])) := by rw [Lib.byteCells_append]; simpa [Lib.byteCells] using hown'
                have HO := Lib.hid ho1
                clear hown hown' hgrow ho1 hbel
                go_wp2_with fail
                go_roundw
                case rel => exact ⟨k + 1, by omega, by go_num, f, out ++ [s[k]], by omega, by simp; omega, HE2.out, HO.out, hb1⟩
                case measure => simp [intOf]; omega
              · have hb := HY1.out
                have e1 : (r == 0) = false := by rw [beq_eq_false_iff_ne]; exact hr0
                have e2 : ((r : Int) == 0) = false := by rw [beq_eq_false_iff_ne]; omega
                rw [e1] at hb
                have hy := HY2.out (by rw [e1]; rfl)
                obtain ⟨E, hE⟩ : ∃ E, E = Utf8.encode (r : Int) := ⟨_, rfl⟩
                have hEl : E.data.toList = Lib.encodeRune (entAt l).1 := by rw [hE, encode_bytes, hy.1]
                have HE2 := Lib.hid (show entities s.data.toList = pre (out ++ E.data.toList) (ents f (s.data.toList.drop (k + 1 + n + 1)) (k + 1 + n + 1)) by
                  rw [HE.out, ents_is _ _ _ (by rw [hb]) (by rw [hb]; rfl), pre_pre, hEl, hy.2, HTl.out, HNn.out, HD.out]
                  congr 2; omega)
                have HErune := Lib.hid hE
                clear hb hy hE hEl e1 hr0 HY1 HY2
                have hcv : (convert 37 9 (.slice (some ⟨w2.heap.size, 0, none⟩) 1 1)).run Tryd.prog (w2.alloc (.cells #[.int .i32 (r : Int)] 21)) = .ok (.string E) (w2.alloc (.cells #[.int .i32 (r : Int)] 21)) := by
                  rw [HErune.out]; exact rune_string w2 (r : Int)
                have hes : E.size ≤ 4 := by rw [HErune.out]; exact encode_size_le _
                go_wp2_with (at_builtin; refine Lib.wpList_append_own_string _ rfl _ _ 45 9 rfl w.heap.size 5 i0 (by kernel_rfl) (by kernel_rfl) hi hz0 hz1 hz2 _ _ _ rfl (hown.alloc _) E rfl (by unfold maxLen; omega) (by omega) (by rw [World.size_alloc]; omega) ?_)
                intro v' w1 hown' hgrow _
                have hb1 : Below w.heap.size w w1 := below_push hbel (by omega) hown hgrow
                have ho1 : w1.ownsRow w.heap.size 5 1 v' (out ++ E.data.toList).length (Lib.byteCells (out ++ E.data.toList)) := by rw [Lib.byteCells_append, List.length_append, ofl]; exact hown'
                have HO := Lib.hid ho1
                clear hown hown' hgrow ho1 hbel hcv
                go_wp2_with fail
                go_roundw
                case rel => exact ⟨k + 1 + n + 1, by omega, by go_num, f, out ++ E.data.toList, by omega, by rw [List.length_append, ofl]; omega, HE2.out, HO.out, hb1⟩
                case measure => simp [intOf]; omega
      · have h1 : (((s[k].toNat : Nat) : Int) != 38) = true := by rw [bne_iff_ne]; have := toNat_ne h38; intro e; have h' : (38 : UInt8).toNat = 38 := rfl; exact this (by omega)
        rw [ents_other _ _ _ _ h38, pre_pre] at heq
        have HE := Lib.hid heq
        clear heq h38
        go_wp2_with (at_builtin; refine wpList_append_own_at _ rfl _ _ 45 rfl w.heap.size 5 i0 (.int .u8 0) 1 1 (by kernel_rfl) hi hz0 hz1 hz2 rfl (by decide) _ _ _ rfl (hown.alloc _) ⟨wr.heap.size, 0, none⟩ 1 1 [.int .u8 s[k].toNat] rfl rfl (cell_one_new _ _ _) (fun u hu => by simp at hu; subst hu; rfl) (by unfold maxLen; omega) (by omega) (by rw [World.size_alloc]; omega) ?_)
        intro v' w1 hown' hgrow _ _
        have hb1 : Below w.heap.size w w1 := below_push hbel (by omega) hown hgrow
        have ho1 : w1.ownsRow w.heap.size 5 1 v' (out ++ [s[k]]).length (Lib.byteCells (out ++ [s[k]])) := by rw [Lib.byteCells_append]; simpa [Lib.byteCells] using hown'
        have HO := Lib.hid ho1
        clear hown hown' hgrow ho1 hbel
        go_wp2_with fail
        go_roundw
        case rel => exact ⟨k + 1, by omega, by go_num, f, out ++ [s[k]], by omega, by simp; omega, HE.out, HO.out, hb1⟩
        case measure => simp [intOf]; omega
    · obtain rfl : k = s.size := by omega
      rw [drop_all, ents_nil] at heq
      have HE := Lib.hid heq
      clear heq
      have hst := string_own hown
      go_wp2_with fail
      go_ret3
      exact ⟨by rw [HE.out]; simp [pre, entsV], hbel⟩
end Go.Proofs.YtcflmpnkmchdoaaDoor
