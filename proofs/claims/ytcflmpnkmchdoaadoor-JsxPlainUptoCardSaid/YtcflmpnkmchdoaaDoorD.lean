/- The contract of jsx.Entities. -/
import Derived.Test.YtcflmpnkmchdoaaDoorC
import Derived.Deep.DeepCutAuto
import Derived.Deep.LoopGhost
import Derived.WalkSmall
import Derived.Deep.CutBlock
namespace Go.Proofs.YtcflmpnkmchdoaaDoor
open Go.RowKit

/-- what Entities hands back. -/
def entsV : Nat ⊕ List UInt8 → Ending
  | .inl a => .returned (.tuple #[.string ⟨#[]⟩, .int .i64 a, .int .i64 700])
  | .inr l => .returned (.tuple #[.string ⟨l.toArray⟩, .int .i64 0, .int .i64 0])
/-- between two rounds. -/
def EntRel (s : ByteArray) (B k : Nat) (w wr : World) : Prop :=
  ∃ (f : Nat) (out : List UInt8), s.size - k ≤ f ∧ out.length ≤ 4 * k ∧ entities s.data.toList = pre out (ents f (s.data.toList.drop k) k) ∧ Lib.IsBuilder 47 5 B B (Lib.byteCells out) wr ∧ Below B w wr

theorem isBuilder_grown {T e : TypeId} {B b : Nat} {bs : List Value} {w w' : World} (h : Lib.IsBuilder T e B b bs w) (hg : w.grownBy w' none) : Lib.IsBuilder T e B b bs w' := by
  have one : ∀ p, Lib.BuilderAt T e B b p bs w → Lib.BuilderAt T e B b p bs w' := by
    rintro p ⟨hB, v, hb, hown, hne⟩
    refine ⟨hB, v, ?_, hown.kept hg (by cases hv : v.ownBlock <;> simp), hne⟩
    rw [hg.block b (by rcases Nat.lt_or_ge b w.heap.size with h' | h'
                       · exact h'
                       · simp [Array.getElem?_eq_none h'] at hb) (by simp)]
    exact hb
  exact h.imp (one _) (one _)
theorem isBuilder_lt {T e : TypeId} {B b : Nat} {bs : List Value} {w : World} (h : Lib.IsBuilder T e B b bs w) : b < w.heap.size := h.elim (·.lt) (·.lt)

/-- what stands behind a & at place k, in the walk's terms. -/
structure Amp (s : ByteArray) (k n : Nat) : Prop where
  le : k + 1 + n ≤ s.size
  yes : ∀ j, j < n → ∃ hh : k + 1 + j < s.size, isN (s[k + 1 + j]'hh) = true
  no : ∀ hh : k + 1 + n < s.size, isN (s[k + 1 + n]'hh) = false
  name : (s.extract (k + 1) (k + 1 + n)).data.toList = nameOf (s.data.toList.drop (k + 1))
theorem get_data (s : ByteArray) (i : Nat) (h : i < s.size) : s.data.toList[i]? = some s[i] := by rw [List.getElem?_eq_getElem (by simpa using h)]; rfl
theorem amp_of (s : ByteArray) (k : Nat) (h : k < s.size) : Amp s k (nameOf (s.data.toList.drop (k + 1))).length := by
  have hl := nameOf_le (s.data.toList.drop (k + 1))
  rw [List.length_drop] at hl
  have hz := ofl s
  refine ⟨by omega, fun j hj => ?_, fun hh => ?_, ?_⟩
  · obtain ⟨x, hx, hp⟩ := tw_lt _ _ hj
    have hh : k + 1 + j < s.size := by omega
    rw [List.getElem?_drop, get_data s _ hh] at hx
    cases hx
    exact ⟨hh, hp⟩
  · refine tw_end (s.data.toList.drop (k + 1)) _ ?_
    rw [List.getElem?_drop]
    exact get_data s _ hh
  · rw [Lib.extract_data]
    rw [show k + 1 + (nameOf (s.data.toList.drop (k + 1))).length - (k + 1) = (nameOf (s.data.toList.drop (k + 1))).length by omega]
    exact tw_take _

set_option maxRecDepth 100000 in
set_option maxHeartbeats 2000000 in
theorem entities_any (s : ByteArray) (w : World) (hs : s.size ≤ 16777216) :
    Calls Tryd.prog 9 #[.string s] w fun e w' => e = entsV (entities s.data.toList) ∧ Below w.heap.size w w' := by
  go_enter Tryd.func9, Tryd.ntmps9
  go_wp2
  go_loopw [6, 7, 8, 9, 10] (fun i t r is may wr => ∃ k : Nat, k ≤ s.size ∧ i = .int .i64 k ∧ EntRel s w.heap.size k w wr) (fun i _ _ _ _ _ => s.size - (intOf i).toNat)
  case atStart => exact ⟨0, Nat.zero_le _, rfl, s.size, [], by omega, by simp, by simp [entities, pre_nil], Lib.fresh_isBuilder _ _ _, (Below.refl _ _).alloc (Nat.le_refl _) _⟩
  case round =>
    obtain ⟨k, hk, rfl, f, out, hf, hol, heq, hb, hbel⟩ := hrel
    have hsz := hbel.size
    by_cases hlt : k < s.size
    · obtain ⟨f, rfl⟩ : ∃ g, f = g + 1 := ⟨f - 1, by omega⟩
      rw [drop_cons s k hlt] at heq
      by_cases h38 : s[k] = 38
      · rw [h38] at heq
        have h1 : (((s[k].toNat : Nat) : Int) == 38) = true := by rw [h38]; rfl
        have HE := Lib.hid heq
        have H38 := Lib.hid h38
        clear heq h38
        have hA := amp_of s k hlt
        have hLn : (s.data.toList.drop (k + 1)).length = s.size - (k + 1) := by rw [List.length_drop, ofl]
        generalize hN : s.data.toList.drop (k + 1) = l at *
        generalize hNn : (nameOf l).length = n at *
        have HNn := Lib.hid hNn
        have HN := Lib.hid hN
        clear hN hNn
        have hle := hA.le
        have HA := Lib.hid hA
        clear hA
        go_upto_block 2 with fail
        go_cut [7] (fun t wx => t = .int .i64 (k + 1 + n : Nat) ∧ wx = wr)
        case first =>
          clear hb hbel HE hol hf h1 hLn HN HNn hsz
          go_wp2_with fail
          go_loop [7] (fun t => ∃ j : Nat, j ≤ n ∧ t = .int .i64 (k + 1 + j : Nat)) (fun t => s.size - (intOf t).toNat)
          case atStart => exact ⟨0, Nat.zero_le _, by go_num⟩
          case round =>
            obtain ⟨j, hj, rfl⟩ := hrel
            by_cases hjn : j < n
            · obtain ⟨hh, ht⟩ := HA.out.yes j hjn
              have ho := or32 s[k + 1 + j]
              rcases isN_true ht with ⟨hc, hc0⟩ | ⟨hc0, ⟨hc1, hc2⟩ | ⟨hc1, hc2, hc3⟩⟩
              all_goals
                clear ht
                go_wp2_with fail
                all_goals
                  go_round
                  case rel => exact ⟨j + 1, by omega, by go_num⟩
                  case measure => simp [intOf]; omega
            · obtain rfl : j = n := by omega
              by_cases hh : k + 1 + j < s.size
              · obtain ⟨hc1, hc2, hc3⟩ := isN_false (HA.out.no hh)
                have ho := or32 s[k + 1 + j]
                rcases hc2 with hc2 | hc2 <;> rcases hc3 with hc3 | hc3
                all_goals
                  go_wp2_with fail
                  all_goals
                    go_meet
                    exact ⟨by go_num, rfl⟩
              · go_wp2_with fail
                all_goals
                  go_meet
                  exact ⟨by go_num, rfl⟩
        case rest =>
          obtain ⟨rfl, rfl⟩ := hcut
          have hEnt := entity_any (s.extract (k + 1) (k + 1 + n)) wc (by simp; omega)
          rw [HA.out.name, HN.out] at hEnt
          have hel := entR_le (nameOf l)
          have hln : ∀ hh : k + 1 + n < s.size, l[n]? = some (s[k + 1 + n]'hh) := fun hh => by rw [← HN.out, List.getElem?_drop, get_data s _ hh]
          have HEa := Lib.hid (show entAt l = if l[n]? = some 59 then entR (nameOf l) else (0, false, true) by rw [entAt, HNn.out])
          generalize entR (nameOf l) = e at *
          obtain ⟨r, is, may⟩ := e
          simp only at hel
          have HT := Lib.hid hEnt
          clear hEnt
          have hdrop : l.drop (n + 1) = s.data.toList.drop (k + 1 + n + 1) := by rw [← HN.out, List.drop_drop]; congr 1
          have HD := Lib.hid hdrop
          clear hdrop
          go_upto_region 9 with (go_at_call 21; refine HT.out.mono ?_; rintro e w' ⟨rfl, rfl⟩)
          clear HT
          go_cut [78] (fun c wx => c = .bool (decide (l[n]? ≠ some 59)) ∧ wx = wc)
          case first =>
            clear hb hbel HE
            by_cases hto : k + 1 + n < s.size
            · have hne : (((k : Nat) : Int) + 1 + (n : Int) == (s.size : Int)) = false := by rw [beq_eq_false_iff_ne]; omega
              have hl' := hln hto
              have hd : (((s[k + 1 + n].toNat : Nat) : Int) != 59) = decide (l[n]? ≠ some 59) := by
                rw [hl']
                rw [Bool.eq_iff_iff, bne_iff_ne, decide_eq_true_iff]
                constructor
                · intro h e
                  rw [Option.some.inj e] at h
                  exact h rfl
                · intro h e
                  refine h (congrArg some (UInt8.toNat.inj ?_))
                  have : s[k + 1 + n].toNat = 59 := by omega
                  exact this
              have Hd := Lib.hid hd
              clear hln hl' hd HEa
              go_wp2_with fail
              go_meet
              exact ⟨by rw [Hd.out], rfl⟩
            · have hne : (((k : Nat) : Int) + 1 + (n : Int) == (s.size : Int)) = true := by rw [beq_iff_eq]; omega
              have hd : l[n]? = none := List.getElem?_eq_none (by omega)
              have Hd := Lib.hid hd
              clear hln hd HEa
              go_wp2_with fail
              go_meet
              exact ⟨by rw [Hd.out]; rfl, rfl⟩
          case rest =>
            obtain ⟨rfl, hwc⟩ := hcut
            subst hwc
            by_cases hsemi : l[n]? = some 59
            · have hto : k + 1 + n < s.size := by
                rcases Nat.lt_or_ge (k + 1 + n) s.size with h | h
                · exact h
                · rw [List.getElem?_eq_none (by omega)] at hsemi; cases hsemi
              have HEn := Lib.hid (show entAt l = (r, is, may) by rw [HEa.out, if_pos hsemi])
              have hdec : decide (l[n]? ≠ some 59) = false := by rw [hsemi]; rfl
              rw [hdec]
              clear hln hsemi hdec HEa
              cases may
              · go_wp2_with fail
                go_ret3
                refine ⟨?_, hbel⟩
                rw [HE.out, ents_bad _ _ _ (by rw [HEn.out])]
                rfl
              · cases is
                · have HE2 := Lib.hid (show entities s.data.toList = pre (out ++ [s[k]]) (ents f l (k + 1)) by rw [HE.out, ents_none _ _ _ (by rw [HEn.out]) (by rw [HEn.out]), pre_pre, H38.out])
                  go_wp2_with (go_at_call 24; refine (Tryd.Builder_WriteByte w.heap.size w.heap.size _ _ _ hb (by rw [Lib.byteCells_length]; omega) hsz).mono ?_; rintro e w1 ⟨rfl, hb1, hbel1⟩)
                  go_roundw
                  case rel => exact ⟨k + 1, by omega, by go_num, f, out ++ [s[k]], by omega, by simp; omega, by rw [HE2.out, ← HN.out], .inr (by rw [Lib.byteCells_append]; exact hb1), hbel.trans hbel1⟩
                  case measure => simp [intOf]; omega
                · have HE2 := Lib.hid (show entities s.data.toList = pre (out ++ Lib.encodeRune r) (ents f (s.data.toList.drop (k + 1 + n + 1)) (k + n + 2)) by
                    rw [HE.out, ents_is _ _ _ (by rw [HEn.out]) (by rw [HEn.out]), pre_pre, HEn.out, HNn.out, HD.out])
                  have hApp := Tryd.utf8_AppendRune_plain wc.heap.size (.slice none 0 0) 0 [] (r : Int) (by omega) (by omega) wc (World.ownsRow_nil _ _ _ _) (by omega) (Nat.le_refl _)
                  have HApp := Lib.hid hApp
                  clear hApp
                  go_wp2_with (go_at_call 23; refine HApp.out.mono ?_)
                  rintro e w1 ⟨v', rfl, hown, o, hg⟩
                  simp only [Nat.zero_add, List.nil_append] at hown
                  have hg' : wc.grownBy w1 none := (World.grownBy_alloc wc o none).trans hg
                  have hlenr := Lib.runeCells_le r
                  obtain ⟨g, cap, rfl, hgB⟩ : ∃ g cap, v' = .slice (some ⟨g, 0, none⟩) (Lib.runeCells r).length cap ∧ wc.heap.size ≤ g := by
                    rcases hown.2 with ⟨_, h0⟩ | ⟨g, cap, cur, rfl, hg0, _⟩
                    · omega
                    · exact ⟨g, cap, rfl, hg0⟩
                  have hblt := isBuilder_lt hb
                  have hb1 := isBuilder_grown hb hg'
                  have hbel1 : Below w.heap.size w w1 := hbel.grown hg' hsz (by simp)
                  have hW := Tryd.Builder_Write w.heap.size w.heap.size (Lib.byteCells out) ⟨g, 0, none⟩ (Lib.runeCells r).length cap (Lib.runeCells r) w1 hb1 (by omega)
                    (fun j u hj => by
                      have hjl := (List.getElem?_eq_some_iff.1 hj).1
                      have := World.ownsRow.cellAt hown j (by omega)
                      rw [hj] at this
                      rw [← this]
                      unfold Addr.add
                      split
                      · rename_i h0; subst h0; rfl
                      · simp)
                    (fun j => by unfold Addr.add; split <;> simp <;> omega)
                    (fun u hu => by
                      simp only [Lib.runeCells, List.mem_map] at hu
                      obtain ⟨x, _, rfl⟩ := hu
                      rfl)
                    (by rw [Lib.byteCells_length]; omega) hbel1.size
                  have HW := Lib.hid hW
                  clear hW hown hg hg' HApp
                  go_wp2_with (go_at_call 22; refine HW.out.mono ?_; rintro e w2 ⟨rfl, hb2, hbel2⟩)
                  go_roundw
                  case rel => exact ⟨k + 1 + n + 1, by omega, by go_num, f, out ++ Lib.encodeRune r, by omega, by rw [List.length_append, ← Lib.runeCells_length]; omega, by rw [HE2.out]; congr 2; omega, .inr (by rw [Lib.byteCells_append, Lib.byteCells_encodeRune]; exact hb2), hbel1.trans hbel2⟩
                  case measure => simp [intOf]; omega
            · have HEn := Lib.hid (show entAt l = (0, false, true) by rw [HEa.out, if_neg hsemi])
              have HE2 := Lib.hid (show entities s.data.toList = pre (out ++ [s[k]]) (ents f l (k + 1)) by rw [HE.out, ents_none _ _ _ (by rw [HEn.out]) (by rw [HEn.out]), pre_pre, H38.out])
              have hdec : decide (l[n]? ≠ some 59) = true := decide_eq_true hsemi
              rw [hdec]
              clear hln hsemi hdec HEa
              go_wp2_with (go_at_call 24; refine (Tryd.Builder_WriteByte w.heap.size w.heap.size _ _ _ hb (by rw [Lib.byteCells_length]; omega) hsz).mono ?_; rintro e w1 ⟨rfl, hb1, hbel1⟩)
              go_roundw
              case rel => exact ⟨k + 1, by omega, by go_num, f, out ++ [s[k]], by omega, by simp; omega, by rw [HE2.out, ← HN.out], .inr (by rw [Lib.byteCells_append]; exact hb1), hbel.trans hbel1⟩
              case measure => simp [intOf]; omega
      · have h1 : s[k].toNat ≠ 38 := toNat_ne h38
        rw [ents_other _ _ _ _ h38, pre_pre] at heq
        have HE := Lib.hid heq
        clear heq h38
        go_wp2_with (go_at_call 24; refine (Tryd.Builder_WriteByte w.heap.size w.heap.size _ _ _ hb (by rw [Lib.byteCells_length]; omega) hsz).mono ?_; rintro e w1 ⟨rfl, hb1, hbel1⟩)
        go_roundw
        case rel => exact ⟨k + 1, by omega, by go_num, f, out ++ [s[k]], by omega, by simp; omega, HE.out, .inr (by rw [Lib.byteCells_append]; exact hb1), hbel.trans hbel1⟩
        case measure => simp [intOf]; omega
    · obtain rfl : k = s.size := by omega
      rw [drop_all, ents_nil] at heq
      have HE := Lib.hid heq
      clear heq
      go_wp2_with (go_at_call 25; refine (Tryd.Builder_String_any w.heap.size w.heap.size _ _ hb hsz).mono ?_; rintro e w1 ⟨rfl, hbel1⟩)
      go_ret3
      exact ⟨by rw [HE.out]; simp [pre, entsV], hbel.trans hbel1⟩
end Go.Proofs.YtcflmpnkmchdoaaDoor
