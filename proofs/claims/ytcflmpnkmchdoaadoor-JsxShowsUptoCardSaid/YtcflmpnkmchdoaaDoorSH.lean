/- The contract of the reference's Shown (package platenref7): it answers shownL. Condition: at most 2^24 bytes. -/
import Derived.Test.YtcflmpnkmchdoaaDoorSP
import Derived.Test.YtcflmpnkmchdoaaDoorU
namespace Go.Proofs.YtcflmpnkmchdoaaDoor
open Go.RowKit

theorem lines_own {w : World} {B : Nat} {v : Value} {acc : List (List UInt8)} {X : ByteArray} (h : w.ownsRow B 9 1 v (acc.length + 1) (acc.map strV ++ [.string X])) : w.ownsRow B 9 1 v (acc ++ [X.data.toList]).length ((acc ++ [X.data.toList]).map strV) := by
  rw [List.map_append, List.length_append]
  have e : Value.string X = strV X.data.toList := congrArg Value.string (byteArray_ext X X.data.toList rfl)
  rw [e] at h
  exact h
def strN : Value → Nat
  | .string s => s.size
  | _ => 0
theorem eq_fact {c : UInt8} {d : UInt8} (h : c = d) : (((c.toNat : Nat) : Int) == ((d.toNat : Nat) : Int)) = true := by rw [h]; exact beq_self_eq_true _
theorem ne_fact {c : UInt8} {d : UInt8} (h : c ≠ d) : (((c.toNat : Nat) : Int) == ((d.toNat : Nat) : Int)) = false := by
  rw [beq_eq_false_iff_ne]
  exact fun e => h (UInt8.toNat.inj (by omega))

set_option maxRecDepth 100000 in
set_option maxHeartbeats 4000000 in
theorem shown_ref (s : ByteArray) (w : World) (hs : s.size ≤ 16777216) :
    Calls Tryd.prog 17 #[.string s] w fun e w' => e = .returned (.string ⟨(shownL s.data.toList).toArray⟩) ∧ Below w.heap.size w w' := by
  obtain ⟨i0, hi, hz0, hz1, hz2⟩ := info_parts infoStr
  go_enter Tryd.func17, Tryd.ntmps17
  go_wp2_with fail
  go_loopw [5, 4, 3] (fun i fr v wr => ∃ k : Nat, k ≤ s.size ∧ i = .int .i64 k ∧ ∃ (a : Nat) (acc : List (List UInt8)), fr = .int .i64 a ∧ LineR s a k acc ∧ wr.ownsRow w.heap.size 9 1 v acc.length (acc.map strV) ∧ Below w.heap.size w wr) (fun i _ _ _ => s.size - (intOf i).toNat)
  case atStart => exact ⟨0, Nat.zero_le _, rfl, 0, [], rfl, lineR_start s, World.ownsRow_nil _ _ _ _, Below.refl _ _⟩
  case round =>
    obtain ⟨k, hk, rfl, a, acc, rfl, hl, hown, hbel⟩ := hrel
    have hle := hl.le
    have hal := hl.len
    have hsz := hbel.size
    have HLR := Lib.hid hl
    clear hl
    by_cases hlt : k < s.size
    · by_cases h10 : s[k] = 10
      · have b1 : (((s[k].toNat : Nat) : Int) == 10) = true := eq_fact h10
        have b2 : (((s[k].toNat : Nat) : Int) == 13) = false := by rw [h10]; rfl
        have H10 := Lib.hid h10
        clear h10
        go_wp2_with (at_builtin; refine wpList_append_own_at _ rfl _ _ 30 rfl w.heap.size 9 i0 (.string ⟨#[]⟩) 1 16 (by kernel_rfl) hi hz0 hz1 hz2 rfl (by decide) _ _ _ rfl (hown.alloc _) ⟨wr.heap.size, 0, none⟩ 1 1 [.string (s.extract a k)] rfl rfl (cell_one_new _ _ _) (fun u hu => by simp at hu; subst hu; rfl) (by unfold maxLen; omega) (by omega) (by rw [World.size_alloc]; omega) ?_)
        intro v' w1 hown' hgrow _ _
        have hb1 : Below w.heap.size w w1 := below_push hbel (by omega) hown hgrow
        have HO := Lib.hid (lines_own hown')
        have HL := Lib.hid (lineR_10 HLR.out hlt H10.out)
        clear hown hown' hgrow hbel
        go_wp2_with fail
        go_roundw
        case rel => exact ⟨k + 1, by omega, by go_num, k + 1, _, by go_num, HL.out, HO.out, hb1⟩
        case measure => simp [intOf]; omega
      · have b1 : (((s[k].toNat : Nat) : Int) == 10) = false := ne_fact h10
        by_cases h13 : s[k] = 13
        · have b2 : (((s[k].toNat : Nat) : Int) == 13) = true := eq_fact h13
          have H13 := Lib.hid h13
          clear h13 h10
          by_cases hlt2 : k + 1 < s.size
          · by_cases hd : s[k + 1] = 10
            · have b3 : (((s[k + 1].toNat : Nat) : Int) == 10) = true := eq_fact hd
              have HD := Lib.hid hd
              clear hd
              go_wp2_with (at_builtin; refine wpList_append_own_at _ rfl _ _ 30 rfl w.heap.size 9 i0 (.string ⟨#[]⟩) 1 16 (by kernel_rfl) hi hz0 hz1 hz2 rfl (by decide) _ _ _ rfl (hown.alloc _) ⟨wr.heap.size, 0, none⟩ 1 1 [.string (s.extract a k)] rfl rfl (cell_one_new _ _ _) (fun u hu => by simp at hu; subst hu; rfl) (by unfold maxLen; omega) (by omega) (by rw [World.size_alloc]; omega) ?_)
              intro v' w1 hown' hgrow _ _
              have hb1 : Below w.heap.size w w1 := below_push hbel (by omega) hown hgrow
              have HO := Lib.hid (lines_own hown')
              have HL := Lib.hid (lineR_1310 HLR.out hlt H13.out hlt2 HD.out)
              clear hown hown' hgrow hbel
              go_wp2_with fail
              go_roundw
              case rel => exact ⟨k + 2, by omega, by go_num, k + 2, _, by go_num, HL.out, HO.out, hb1⟩
              case measure => simp [intOf]; omega
            · have b3 : (((s[k + 1].toNat : Nat) : Int) == 10) = false := ne_fact hd
              have HD := Lib.hid hd
              clear hd
              go_wp2_with (at_builtin; refine wpList_append_own_at _ rfl _ _ 30 rfl w.heap.size 9 i0 (.string ⟨#[]⟩) 1 16 (by kernel_rfl) hi hz0 hz1 hz2 rfl (by decide) _ _ _ rfl (hown.alloc _) ⟨wr.heap.size, 0, none⟩ 1 1 [.string (s.extract a k)] rfl rfl (cell_one_new _ _ _) (fun u hu => by simp at hu; subst hu; rfl) (by unfold maxLen; omega) (by omega) (by rw [World.size_alloc]; omega) ?_)
              intro v' w1 hown' hgrow _ _
              have hb1 : Below w.heap.size w w1 := below_push hbel (by omega) hown hgrow
              have HO := Lib.hid (lines_own hown')
              have HL := Lib.hid (lineR_13 HLR.out hlt H13.out (fun _ => HD.out))
              clear hown hown' hgrow hbel
              go_wp2_with fail
              go_roundw
              case rel => exact ⟨k + 1, by omega, by go_num, k + 1, _, by go_num, HL.out, HO.out, hb1⟩
              case measure => simp [intOf]; omega
          · have hk1 : k + 1 = s.size := by omega
            go_wp2_with (at_builtin; refine wpList_append_own_at _ rfl _ _ 30 rfl w.heap.size 9 i0 (.string ⟨#[]⟩) 1 16 (by kernel_rfl) hi hz0 hz1 hz2 rfl (by decide) _ _ _ rfl (hown.alloc _) ⟨wr.heap.size, 0, none⟩ 1 1 [.string (s.extract a k)] rfl rfl (cell_one_new _ _ _) (fun u hu => by simp at hu; subst hu; rfl) (by unfold maxLen; omega) (by omega) (by rw [World.size_alloc]; omega) ?_)
            intro v' w1 hown' hgrow _ _
            have hb1 : Below w.heap.size w w1 := below_push hbel (by omega) hown hgrow
            have HO := Lib.hid (lines_own hown')
            have HL := Lib.hid (lineR_13 HLR.out hlt H13.out (fun h => absurd h (by omega)))
            clear hown hown' hgrow hbel
            go_wp2_with fail
            go_roundw
            case rel => exact ⟨k + 1, by omega, by go_num, k + 1, _, by go_num, HL.out, HO.out, hb1⟩
            case measure => simp [intOf]; omega
        · have b2 : (((s[k].toNat : Nat) : Int) == 13) = false := ne_fact h13
          have HL := Lib.hid (lineR_other HLR.out hlt h10 h13)
          clear h10 h13
          go_wp2_with fail
          go_roundw
          case rel => exact ⟨k + 1, by omega, by go_num, a, _, rfl, HL.out, hown, hbel⟩
          case measure => simp [intOf]; omega
    · obtain rfl : k = s.size := by omega
      go_wp2_with (at_builtin; refine wpList_append_own_at _ rfl _ _ 30 rfl w.heap.size 9 i0 (.string ⟨#[]⟩) 1 16 (by kernel_rfl) hi hz0 hz1 hz2 rfl (by decide) _ _ _ rfl (hown.alloc _) ⟨wr.heap.size, 0, none⟩ 1 1 [.string (s.extract a s.size)] rfl rfl (cell_one_new _ _ _) (fun u hu => by simp at hu; subst hu; rfl) (by unfold maxLen; omega) (by omega) (by rw [World.size_alloc]; omega) ?_)
      intro v' w1 hown' hgrow _ _
      have hb1 : Below w.heap.size w w1 := below_push hbel (by omega) hown hgrow
      have HO := Lib.hid (lines_own hown')
      have HL := Lib.hid (lineR_done HLR.out)
      clear hown hown' hgrow hbel
      rw [← HL.out] at HO
      clear HL HLR hk hle hal hlt
      have hsum := sumL_lines s.data.toList
      have hdone : ∀ (O : ByteArray) (dn : List (List UInt8)), OutR (linesL s.data.toList) (linesL s.data.toList).length O dn → O = ⟨(shownL s.data.toList).toArray⟩ := fun O dn h => (byteArray_ext O _ (outR_done h)).symm
      have hne := linesL_ne s.data.toList
      rw [ofl] at hsum
      generalize linesL s.data.toList = L at *
      have hpos : 0 < L.length := List.length_pos_iff.2 hne
      have hlen : L.length ≤ 16777217 := by have := length_sumL L; omega
      obtain ⟨av, cv, rfl, hcell⟩ := Texts.slice HO.out
      obtain ⟨g, rfl, _⟩ := hcell 0 hpos
      have hcl : ∀ j (hj : j < L.length), w1.cell? ⟨g, j, none⟩ = some (.string ⟨(L[j]).toArray⟩) := fun j hj => by
        obtain ⟨g', e, h⟩ := hcell j hj
        cases e
        exact h
      have HC := Lib.hid hcl
      have HD := Lib.hid hdone
      clear hcell hcl hdone hne HO
      go_wp2_with fail
      go_loop [8, 6, 7] (fun i o f => ∃ (k : Nat) (O : ByteArray) (dn : List (List UInt8)), k ≤ L.length ∧ i = .int .i64 k ∧ o = .string O ∧ f = .bool (decide (dn = [])) ∧ OutR L k O dn) (fun i _ _ => L.length - (intOf i).toNat)
      case atStart => exact ⟨0, _, [], Nat.zero_le _, rfl, rfl, rfl, outR_start L⟩
      case round =>
        obtain ⟨k, O, dn, hk, rfl, rfl, rfl, hr⟩ := hrel
        have hO := outR_size hr
        have HR := Lib.hid hr
        clear hr
        by_cases hlt : k < L.length
        · have hz := HC.out k hlt
          have hx := mem_sumL (List.getElem_mem hlt)
          have hX : (⟨(L[k]).toArray⟩ : ByteArray).data.toList = L[k] := rfl
          generalize hX0 : (⟨(L[k]).toArray⟩ : ByteArray) = X0 at *
          have HX := Lib.hid hX
          have hxs : X0.size ≤ 16777216 := by rw [← ofl, hX]; omega
          clear hX hX0 hx HC
          go_upto_block 4 with fail
          go_cut [9] (fun l wx => ∃ X : ByteArray, l = .string X ∧ X.size ≤ 16777216 ∧ X.data.toList = leftL (decide (0 < k)) X0.data.toList ∧ wx = w1)
          case first =>
            clear HR HD HX hb1 hz hO
            go_wp2_with fail
            go_loop [9] (fun l => ∃ X : ByteArray, l = .string X ∧ X.size ≤ 16777216 ∧ leftL (decide (0 < k)) X.data.toList = leftL (decide (0 < k)) X0.data.toList) (fun l => strN l)
            case atStart => exact ⟨X0, rfl, hxs, rfl⟩
            case round =>
              obtain ⟨X, rfl, hXs, hX⟩ := hrel
              have HX := Lib.hid hX
              clear hX
              by_cases hk0 : 0 < k
              · have hd : decide (0 < k) = true := decide_eq_true hk0
                rw [hd] at HX ⊢
                by_cases hX0 : 0 < X.size
                · by_cases h32 : X[0] = 32
                  · have b1 : (((X[0].toNat : Nat) : Int) == 32) = true := eq_fact h32
                    have HN := Lib.hid ((left_step X hX0 (.inl h32)).trans HX.out)
                    clear h32
                    go_wp2_with fail
                    go_round
                    case rel => exact ⟨_, rfl, by rw [ByteArray.size_extract]; omega, HN.out⟩
                    case measure => simp [strN, ByteArray.size_extract]; omega
                  · have b1 : (((X[0].toNat : Nat) : Int) == 32) = false := ne_fact h32
                    by_cases h9 : X[0] = 9
                    · have b2 : (((X[0].toNat : Nat) : Int) == 9) = true := eq_fact h9
                      have HN := Lib.hid ((left_step X hX0 (.inr h9)).trans HX.out)
                      clear h9 h32
                      go_wp2_with fail
                      go_round
                      case rel => exact ⟨_, rfl, by rw [ByteArray.size_extract]; omega, HN.out⟩
                      case measure => simp [strN, ByteArray.size_extract]; omega
                    · have b2 : (((X[0].toNat : Nat) : Int) == 9) = false := ne_fact h9
                      have HN := Lib.hid ((left_stop X (fun _ => ⟨h32, h9⟩)).symm.trans HX.out)
                      clear h9 h32
                      go_wp2_with fail
                      go_meet
                      exact ⟨X, rfl, hXs, by rw [hd]; exact HN.out, rfl⟩
                · have HN := Lib.hid ((left_stop X (fun h => absurd h hX0)).symm.trans HX.out)
                  have hX00 : X.size = 0 := by omega
                  go_wp2_with fail
                  go_meet
                  exact ⟨X, rfl, hXs, by rw [hd]; exact HN.out, rfl⟩
              · have hd : decide (0 < k) = false := decide_eq_false hk0
                rw [hd] at HX ⊢
                have HK0 := Lib.hid hd
                have hki : (k : Int) ≤ 0 := by omega
                clear hk0 hd
                go_wp2_with fail
                go_meet
                exact ⟨X, rfl, hXs, by rw [HK0.out]; exact HX.out, rfl⟩
          case rest =>
            obtain ⟨X1, rfl, hX1s, hX1, hwc⟩ := hcut
            subst hwc
            have HX1 := Lib.hid hX1
            clear hX1
            go_upto_block 6 with fail
            go_cut [9] (fun l wx => ∃ X : ByteArray, l = .string X ∧ X.size ≤ 16777216 ∧ X.data.toList = pieceL L.length k X0.data.toList ∧ wx = wc)
            case first =>
              have HP := Lib.hid (show pieceL L.length k X0.data.toList = rightL (decide (k + 1 < L.length)) X1.data.toList by rw [HX1.out, piece_of])
              clear HX1 HR HD HX hb1 hz hO
              go_wp2_with fail
              go_loop [9] (fun l => ∃ X : ByteArray, l = .string X ∧ X.size ≤ 16777216 ∧ rightL (decide (k + 1 < L.length)) X.data.toList = pieceL L.length k X0.data.toList) (fun l => strN l)
              case atStart => exact ⟨X1, rfl, hX1s, HP.out.symm⟩
              case round =>
                obtain ⟨X, rfl, hXs, hX⟩ := hrel
                have HX := Lib.hid hX
                clear hX
                by_cases hk0 : k + 1 < L.length
                · have hd : decide (k + 1 < L.length) = true := decide_eq_true hk0
                  rw [hd] at HX ⊢
                  have hkl : (k : Int) < (L.length : Int) - 1 := by omega
                  by_cases hX0 : 0 < X.size
                  · have hXp : X.size - 1 < X.size := by omega
                    by_cases h32 : X[X.size - 1] = 32
                    · have b1 : (((X[X.size - 1].toNat : Nat) : Int) == 32) = true := eq_fact h32
                      have HN := Lib.hid ((right_step X hX0 (.inl h32)).trans HX.out)
                      clear h32
                      go_wp2_with fail
                      go_round
                      case rel => exact ⟨_, rfl, by rw [ByteArray.size_extract]; omega, HN.out⟩
                      case measure => simp [strN, ByteArray.size_extract]; omega
                    · have b1 : (((X[X.size - 1].toNat : Nat) : Int) == 32) = false := ne_fact h32
                      by_cases h9 : X[X.size - 1] = 9
                      · have b2 : (((X[X.size - 1].toNat : Nat) : Int) == 9) = true := eq_fact h9
                        have HN := Lib.hid ((right_step X hX0 (.inr h9)).trans HX.out)
                        clear h9 h32
                        go_wp2_with fail
                        go_round
                        case rel => exact ⟨_, rfl, by rw [ByteArray.size_extract]; omega, HN.out⟩
                        case measure => simp [strN, ByteArray.size_extract]; omega
                      · have b2 : (((X[X.size - 1].toNat : Nat) : Int) == 9) = false := ne_fact h9
                        have HN := Lib.hid ((right_stop X (fun _ => ⟨h32, h9⟩)).symm.trans HX.out)
                        clear h9 h32
                        go_wp2_with fail
                        go_meet
                        exact ⟨X, rfl, hXs, HN.out, rfl⟩
                  · have HN := Lib.hid ((right_stop X (fun h => absurd h hX0)).symm.trans HX.out)
                    have hX00 : X.size = 0 := by omega
                    go_wp2_with fail
                    go_meet
                    exact ⟨X, rfl, hXs, HN.out, rfl⟩
                · have hd : decide (k + 1 < L.length) = false := decide_eq_false hk0
                  rw [hd] at HX ⊢
                  have hkl : ¬ (k : Int) < (L.length : Int) - 1 := by omega
                  go_wp2_with fail
                  go_meet
                  exact ⟨X, rfl, hXs, HX.out, rfl⟩
            case rest =>
              obtain ⟨X, rfl, hXs, hX, hwc2⟩ := hcut
              subst hwc2
              have HXX := Lib.hid hX
              clear hX HX1
              have HP := Lib.hid (show pieceL L.length k L[k] = X.data.toList by rw [← HX.out]; exact HXX.out.symm)
              clear HX HXX
              cases he : X.toList.isEmpty with
              | true =>
                have HN := Lib.hid (outR_skip HR.out hlt (HP.out.trans (by rw [← Lib.toList_data]; exact List.isEmpty_iff.1 he)))
                clear HR HP hz
                go_wp2_with fail
                go_round
                case rel => exact ⟨k + 1, O, dn, by omega, by go_num, rfl, rfl, HN.out⟩
                case measure => simp [intOf]; omega
              | false =>
                have hne : X.data.toList ≠ [] := by rw [← Lib.toList_data]; intro h; rw [h] at he; cases he
                cases hw : decide (dn = []) with
                | true =>
                  have HN := Lib.hid (outR_first HR.out hlt HP.out hne (of_decide_eq_true hw))
                  clear HR HP hz hne hw
                  go_wp2_with fail
                  go_round
                  case rel => exact ⟨k + 1, _, _, by omega, by go_num, rfl, by simp, HN.out⟩
                  case measure => simp [intOf]; omega
                | false =>
                  have HN := Lib.hid (outR_more HR.out hlt HP.out hne (of_decide_eq_false hw))
                  clear HR HP hz hne hw
                  go_wp2_with fail
                  go_round
                  case rel => exact ⟨k + 1, _, _, by omega, by go_num, rfl, by simp, HN.out⟩
                  case measure => simp [intOf]; omega
        · obtain rfl : k = L.length := by omega
          have e := HD.out _ _ HR.out
          go_wp2_with fail
          go_ret
          exact ⟨rfl, hb1⟩
end Go.Proofs.YtcflmpnkmchdoaaDoor
