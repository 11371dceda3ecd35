/- The reference's small functions, on: ahead, number, plain, small. Conditions: at most 2^24 bytes; number: at most nine digits. -/
import Derived.Test.YthnchejhcmpipaaDoorRA
import Derived.Lib.Case
namespace Go.Proofs.YthnchejhcmpipaaDoor
open Go.RowKit

def strN : Value → Nat
  | .string s => s.size
  | _ => 0
set_option maxHeartbeats 800000 in
theorem ahead_any (s : ByteArray) (w : World) (hs : s.size ≤ 16777216) : Calls Tryd.prog 27 #[.string s] w fun e w' => e = .returned (.string ⟨(Lib.trimLeftB s.data.toList 48).toArray⟩) ∧ w = w' := by
  go_enter Tryd.func27, Tryd.ntmps27
  go_wp2
  go_loop [0] (fun x => ∃ T : ByteArray, T.size ≤ s.size ∧ x = .string T ∧ Lib.trimLeftB T.data.toList 48 = Lib.trimLeftB s.data.toList 48) (fun x => strN x)
  case atStart => exact ⟨s, Nat.le_refl _, rfl, rfl⟩
  case round =>
    obtain ⟨T, hT, rfl, hv⟩ := hrel
    by_cases h0 : 0 < T.size
    · have hx := drop_cons T 0 h0
      rw [List.drop_zero] at hx
      by_cases h48 : T[0] = 48
      · have b1 : (((T[0].toNat : Nat) : Int) == 48) = true := eq_fact h48
        have HN := Lib.hid (show Lib.trimLeftB (T.extract 1 T.size).data.toList 48 = Lib.trimLeftB s.data.toList 48 by
          rw [← hv, extract_drop]
          conv => rhs; rw [hx]
          unfold Lib.trimLeftB
          rw [List.dropWhile_cons_of_pos (by rw [h48]; decide)])
        clear hx hv h48
        go_wp2_with fail
        go_round
        case rel => exact ⟨T.extract 1 T.size, by rw [ByteArray.size_extract]; omega, rfl, HN.out⟩
        case measure => show (T.extract 1 T.size).size < T.size; rw [ByteArray.size_extract]; omega
      · have b1 : (((T[0].toNat : Nat) : Int) == 48) = false := ne_fact h48
        have HN := Lib.hid (show Lib.trimLeftB s.data.toList 48 = T.data.toList by
          rw [← hv]
          conv => lhs; rw [hx]
          unfold Lib.trimLeftB
          rw [List.dropWhile_cons_of_neg (by simp [h48]), ← hx])
        clear hx hv h48
        go_wp2_with fail
        go_ret
        refine ⟨?_, rfl⟩
        rw [HN.out, byteArray_ext T _ rfl]
        rfl
    · have HN := Lib.hid (show Lib.trimLeftB s.data.toList 48 = T.data.toList by
        have e : T.data.toList = [] := List.length_eq_zero_iff.1 (by rw [ofl]; omega)
        rw [← hv, e]
        rfl)
      clear hv
      go_wp2_with fail
      go_ret
      refine ⟨?_, rfl⟩
      rw [HN.out, byteArray_ext T _ rfl]
      rfl
theorem valGo_small : ∀ (l : List UInt8) (n k : Nat), allDig l → n < 10 ^ k → valGo n l < 10 ^ (k + l.length)
  | [], n, k, _, h => by rw [valGo_nil]; exact h
  | c :: l, n, k, hd, h => by
    have hc := hd c List.mem_cons_self
    have := valGo_small l (10 * n + (c.toNat - 48)) (k + 1) (fun d h => hd d (List.mem_cons_of_mem _ h)) (by rw [Nat.pow_succ]; omega)
    rw [valGo_cons, List.length_cons, show k + (l.length + 1) = k + 1 + l.length by omega]
    exact this
set_option maxHeartbeats 800000 in
theorem number_any (s : ByteArray) (w : World) (hs : s.size ≤ 9) (hd : allDig s.data.toList) : Calls Tryd.prog 30 #[.string s] w fun e w' => e = .returned (.int .i64 (valN s.data.toList)) ∧ w = w' := by
  have HD := Lib.hid hd
  clear hd
  go_enter Tryd.func30, Tryd.ntmps30
  go_wp2
  go_loop [3, 4] (fun n i => ∃ k m : Nat, k ≤ s.size ∧ i = .int .i64 k ∧ m < 10 ^ k ∧ n = .int .i64 m ∧ valN s.data.toList = valGo m (s.data.toList.drop k)) (fun _ i => s.size - (intOf i).toNat)
  case atStart => exact ⟨0, 0, Nat.zero_le _, rfl, by decide, rfl, rfl⟩
  case round =>
    obtain ⟨k, m, hk, rfl, hm, rfl, hv⟩ := hrel
    by_cases hlt : k < s.size
    · have hx := HD.out s[k] (List.mem_of_getElem? (get_data s k hlt))
      have hdk := drop_cons s k hlt
      have HN := Lib.hid (show valN s.data.toList = valGo (10 * m + (s[k].toNat - 48)) (s.data.toList.drop (k + 1)) by rw [hv, hdk]; rfl)
      have HM := Lib.hid (show 10 * m + (s[k].toNat - 48) < 10 ^ (k + 1) by rw [Nat.pow_succ]; omega)
      have hm9 : m < 1000000000 := by
        have : (10 : Nat) ^ k ≤ 10 ^ 9 := Nat.pow_le_pow_right (by decide) (by omega)
        have e : (10 : Nat) ^ 9 = 1000000000 := by decide
        omega
      clear hdk hv hm
      go_wp2_with fail
      go_round
      case rel => exact ⟨k + 1, 10 * m + (s[k].toNat - 48), by omega, by go_num, HM.out, by go_num, HN.out⟩
      case measure => simp [intOf]; omega
    · obtain rfl : k = s.size := by omega
      have HN := Lib.hid (show valN s.data.toList = m by rw [hv, drop_all]; rfl)
      clear hv hm
      go_wp2_with fail
      go_ret
      exact ⟨by rw [HN.out]; rfl, rfl⟩
theorem rinfoByte : (Tryd.prog.info? 5).map (fun i => (i.zero, i.size, i.bytes)) = some (some (.int .u8 0), 1, 1) := by kernel_rfl
def PlRel (s : ByteArray) (w wr : World) (k : Nat) (out : Value) : Prop := ∃ l : List UInt8, l = plainL (s.data.toList.take k) ∧ wr.ownsRow w.heap.size 5 1 out l.length (Lib.byteCells l) ∧ Below w.heap.size w wr
theorem plain_step {s : ByteArray} {k : Nat} (h : k < s.size) : plainL (s.data.toList.take (k + 1)) = plainL (s.data.toList.take k) ++ (if s[k] = 95 then [] else [s[k]]) := by
  rw [List.take_add_one, get_data s k h, plainL, List.filter_append]
  refine congrArg (plainL (s.data.toList.take k) ++ ·) ?_
  by_cases e : s[k] = 95
  · rw [if_pos e]; simp [e]
  · rw [if_neg e]; simp [e]
theorem below_push {B : Nat} {a w w1 : World} {o : Obj} {v : Value} {T : TypeId} {n m : Nat} {xs : List Value} (hb : Below B a w) (hB : B ≤ w.heap.size) (ho : w.ownsRow B T m v n xs) (hg : (w.alloc o).grownBy w1 v.ownBlock) : Below B a w1 := by
  refine (hb.alloc hB o).grown hg ?_ ?_
  · rw [World.size_alloc]; omega
  · intro k hk
    rcases ho.2 with ⟨rfl, _⟩ | ⟨g, cap, cur, rfl, h, _⟩
    · cases hk
    · cases hk; exact h
set_option maxRecDepth 100000 in
set_option maxHeartbeats 1000000 in
theorem rplain_any (s : ByteArray) (w : World) (hs : s.size ≤ 16777216) : Calls Tryd.prog 29 #[.string s] w fun e w' => e = .returned (.string ⟨(plainL s.data.toList).toArray⟩) ∧ Below w.heap.size w w' := by
  obtain ⟨i0, hi, hz0, hz1, hz2⟩ := info_parts rinfoByte
  go_enter Tryd.func29, Tryd.ntmps29
  go_wp2
  go_loopw [3, 4] (fun out i wr => ∃ k : Nat, k ≤ s.size ∧ i = .int .i64 k ∧ PlRel s w wr k out) (fun _ i _ => s.size - (intOf i).toNat)
  case atStart => exact ⟨0, Nat.zero_le _, rfl, [], rfl, World.ownsRow_nil _ _ _ _, Below.refl _ _⟩
  case round =>
    obtain ⟨k, hk, rfl, l, hl, hown, hbel⟩ := hrel
    by_cases hlt : k < s.size
    · have hst := plain_step hlt
      have hll : l.length ≤ s.size := by
        rw [hl]
        refine Nat.le_trans (plainL_len _) ?_
        rw [List.length_take, ofl]
        omega
      rw [← hl] at hst
      by_cases h95 : s[k] = 95
      · have b1 : (((s[k].toNat : Nat) : Int) != 95) = false := by rw [h95]; rfl
        rw [if_pos h95, List.append_nil] at hst
        have HS := Lib.hid hst.symm
        clear hst h95 hl
        go_wp2_with fail
        go_roundw
        case rel => exact ⟨k + 1, by omega, by go_num, l, HS.out, hown, hbel⟩
        case measure => simp [intOf]; omega
      · have b1 : (((s[k].toNat : Nat) : Int) != 95) = true := by rw [bne_iff_ne]; exact fun e => h95 (UInt8.toNat.inj (by rw [show s[k].toNat = 95 by omega]; rfl))
        rw [if_neg h95] at hst
        have HS := Lib.hid hst.symm
        clear hst h95 hl
        have hu := s[k].toNat_lt
        have hle := hbel.size
        go_wp2_with (at_builtin; refine wpList_append_own_at _ rfl _ _ 53 rfl w.heap.size 5 i0 (.int .u8 0) 1 1 (by kernel_rfl) hi hz0 hz1 hz2 rfl (by decide) _ _ _ rfl (hown.alloc _) ⟨wr.heap.size, 0, none⟩ 1 1 [.int .u8 s[k].toNat] rfl rfl (cell_one_new _ _ _) (fun u hu => by simp at hu; subst hu; rfl) (by unfold maxLen; omega) (by omega) (by rw [World.size_alloc]; omega) ?_)
        intro v' w1 hown' hgrow _ _
        have hb1 : Below w.heap.size w w1 := below_push hbel (by omega) hown hgrow
        go_wp2_with fail
        go_roundw
        case rel => exact ⟨k + 1, by omega, by go_num, l ++ [s[k]], HS.out, by simpa [Lib.byteCells] using hown', hb1⟩
        case measure => simp [intOf]; omega
    · obtain rfl : k = s.size := by omega
      have hstr := string_own hown
      have HL := Lib.hid (show plainL s.data.toList = l by rw [hl, List.take_of_length_le (by rw [ofl]; exact Nat.le_refl _)])
      clear hl
      go_wp2_with fail
      go_ret
      exact ⟨by rw [HL.out]; rfl, hbel⟩
end Go.Proofs.YthnchejhcmpipaaDoor
