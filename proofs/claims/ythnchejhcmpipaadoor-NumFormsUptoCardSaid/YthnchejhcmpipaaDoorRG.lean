/- Contracts of the reference's Decimal, small and Check. Conditions: a number of at most 4 * 10^9 either way; at most 2^24 bytes. -/
import Derived.Test.YthnchejhcmpipaaDoorRF
import Derived.Test.YthnchejhcmpipaaDoorY
import Derived.Laws.AppendOwnNone
namespace Go.Proofs.YthnchejhcmpipaaDoor
open Go.RowKit

theorem dgB_small {d : Nat} (h : d < 10) : dgB d = digB d := by unfold dgB digB; rw [if_pos h]
theorem decL_digL : ∀ n : Nat, 0 < n → decL n = digL 10 n := by
  intro n
  induction n using Nat.strongRecOn with
  | ind n ih =>
    intro h
    rw [digL_step (by decide) h]
    by_cases h10 : n < 10
    · rw [decL_small h10, Nat.div_eq_of_lt h10, digL_zero, Nat.mod_eq_of_lt h10, dgB_small h10]
      rfl
    · rw [decL_big h10, ih (n / 10) (by omega) (by omega), decL_small (Nat.mod_lt _ (by decide)), dgB_small (Nat.mod_lt _ (by decide))]
/-- digits under way. -/
def DR (n y : Nat) (l : List UInt8) : Prop := (l = [] ∧ y = n) ∨ (l ≠ [] ∧ digL 10 y ++ l = decL n)
theorem dr_step {n y : Nat} {l : List UInt8} (h : DR n y l) (hy : 0 < y ∨ l = []) : DR n (y / 10) (digB (y % 10) :: l) := by
  have hd : digB (y % 10) = dgB (y % 10) := (dgB_small (Nat.mod_lt _ (by decide))).symm
  refine .inr ⟨by simp, ?_⟩
  rcases h with ⟨rfl, rfl⟩ | ⟨h1, h2⟩
  · by_cases h0 : 0 < y
    · rw [decL_digL y h0, digL_step (by decide) h0, hd]
    · have : y = 0 := by omega
      subst this
      rw [show 0 / 10 = 0 from rfl, digL_zero, decL_zero]
      rfl
  · have h0 : 0 < y := hy.resolve_right h1
    rw [digL_step (by decide) h0] at h2
    rw [hd, ← h2]
    simp
theorem dr_done {n : Nat} {l : List UInt8} (h : DR n 0 l) (hl : l ≠ []) : l = decL n := by
  rcases h with ⟨h1, _⟩ | ⟨_, h2⟩
  · exact absurd h1 hl
  · rw [digL_zero] at h2; exact h2
theorem dr_len {n y : Nat} {l : List UInt8} (h : DR n y l) (hn : n < 10000000000) : l.length ≤ 11 := by
  rcases h with ⟨rfl, _⟩ | ⟨_, h2⟩
  · simp
  · have h3 := decL_len10 10 n (by have : (10 : Nat) ^ 10 = 10000000000 := by decide
                                   omega)
    rw [← h2, List.length_append] at h3
    omega
def DecRel (n : Nat) (w wr : World) (y : Nat) (out : Value) : Prop :=
  ∃ l : List UInt8, DR n y l ∧ wr.ownsRow w.heap.size 5 1 out l.length (Lib.byteCells l) ∧ Below w.heap.size w wr ∧ (l = [] → out = .slice none 0 0)
theorem dig_cell (y : Nat) : Value.int .u8 (48 + (y : Int) % 10) = Value.int .u8 ((digB (y % 10)).toNat : Int) := by
  have : (digB (y % 10)).toNat = 48 + y % 10 := digB_toNat (Nat.mod_lt _ (by decide))
  rw [this]
  congr 1
def nilN : Value → Nat
  | .slice none _ _ => 1
  | _ => 0
theorem nil_own {w : World} {base size n : Nat} {e : TypeId} {v : Value} {xs : List Value} (h : w.ownsRow base e size v n xs) (hn : 0 < n) : nilN v = 0 := by
  rcases h.2 with ⟨_, h0⟩ | ⟨g, cap, cur, rfl, _⟩
  · omega
  · rfl
theorem dec_first {x y : Nat} {w wr : World} {l : List UInt8} (h : DR x y l) (hl : l = []) (hb : Below w.heap.size w wr) :
    DecRel x w (wr.alloc (.cells #[.int .u8 (48 + (y : Int) % 10)] 5)) (y / 10) (.slice (some ⟨wr.heap.size, 0, none⟩) 1 1) := by
  refine ⟨_, dr_step h (.inr hl), ?_, Below.alloc hb hb.size _, fun e => by cases e⟩
  subst hl
  have := World.ownsRow_lit (base := w.heap.size) (e := 5) (size := 1) wr #[.int .u8 (48 + (y : Int) % 10)] 1 hb.size (by decide) rfl
  rw [dig_cell] at this ⊢
  exact this
theorem dec_next {x y : Nat} {w wr w1 : World} {l : List UInt8} {v : Value} (h : DR x y l) (hy : 0 < y ∨ l = []) (hb : Below w.heap.size w wr)
    (ho : w1.ownsRow wr.heap.size 5 1 v (1 + l.length) ([.int .u8 (48 + (y : Int) % 10)] ++ Lib.byteCells l)) (hg : (wr.alloc (.cells #[.int .u8 (48 + (y : Int) % 10)] 5)).grownBy w1 (some wr.heap.size)) :
    DecRel x w w1 (y / 10) v := by
  refine ⟨_, dr_step h hy, ?_, ?_, fun e => by cases e⟩
  · have := own_le ho hb.size
    rw [dig_cell] at this
    rw [List.length_cons, Nat.add_comm]
    exact this
  · refine (hb.alloc hb.size _).grown hg ?_ ?_
    · rw [World.size_alloc]; have := hb.size; omega
    · intro k hk
      cases hk
      exact hb.size
set_option maxRecDepth 100000 in
set_option maxHeartbeats 1000000 in
theorem decimal_pos (x : Nat) (hx : x ≤ 4000000000) (w : World) (z : Int) (hz : z = x) : Calls Tryd.prog 31 #[.int .i64 z] w fun e w' => e = .returned (.string ⟨(decL x).toArray⟩) ∧ Below w.heap.size w w' := by
  subst hz
  obtain ⟨i0, hi, hz0, hz1, hz2⟩ := info_parts rinfoByte
  go_enter Tryd.func31, Tryd.ntmps31
  go_wp2
  go_loopw [3, 4] (fun n out wr => ∃ y : Nat, y ≤ x ∧ n = .int .u64 y ∧ DecRel x w wr y out) (fun n out _ => (intOf n).toNat * 2 + nilN out)
  case atStart => exact ⟨x, Nat.le_refl _, by go_num, [], .inl ⟨rfl, rfl⟩, World.ownsRow_nil _ _ _ _, Below.refl _ _, fun _ => rfl⟩
  case round =>
    obtain ⟨y, hy, rfl, l, hd, hown, hbel, hnil⟩ := hrel
    have HD := Lib.hid hd
    have hlen : l.length ≤ 11 := dr_len hd (by omega)
    clear hd
    rcases hown.2 with ⟨rfl, h0⟩ | ⟨g, cap, cur, rfl, hgb, hgc, hnc, hcm, hcs, htk⟩
    · have h0 : l = [] := List.length_eq_zero_iff.1 h0
      have H0 := Lib.hid h0
      clear h0 hown
      by_cases hy0 : y = 0
      · subst hy0
        go_wp2_with fail
        go_roundw
        case rel => exact ⟨0, by omega, rfl, dec_first HD.out H0.out hbel⟩
        case measure => show _ < _; simp [intOf, nilN]
      · have hpos : 0 < y := by omega
        go_wp2_with fail
        go_roundw
        case rel => exact ⟨y / 10, by omega, by go_num, dec_first HD.out H0.out hbel⟩
        case measure => simp [intOf, nilN]; omega
    · clear hgc hnc hcm hcs htk
      by_cases hy0 : y = 0
      · subst hy0
        have hl : l ≠ [] := fun e => by have := hnil e; cases this
        have hpos : 0 < l.length := List.length_pos_iff.2 hl
        have hstr := string_own hown
        have HT := Lib.hid (dr_done HD.out hl)
        clear hnil hl HD
        go_wp2_with fail
        go_ret
        exact ⟨by rw [← HT.out]; rfl, hbel⟩
      · clear hnil
        have hpos : 0 < y := by omega
        go_wp2_with (at_builtin; (refine wpList_append_own_at _ rfl _ _ 53 rfl wr.heap.size 5 i0 (.int .u8 0) 1 1 (by kernel_rfl) hi hz0 hz1 hz2 rfl (by decide) _ 1 [.int .u8 (48 + (y : Int) % 10)] rfl (World.ownsRow_lit wr #[.int .u8 (48 + (y : Int) % 10)] 1 (Nat.le_refl _) (by decide) rfl) ⟨g, 0, none⟩ l.length cap (Lib.byteCells l) rfl (by simp [Lib.byteCells]) ((hown.alloc _).cells rfl) (one_cells l) (by unfold maxLen; omega) (by omega) (by rw [World.size_alloc]; omega) ?_))
        intro v' w1 hown' hgrow _ _
        have HR := Lib.hid (dec_next HD.out (.inl hpos) hbel hown' hgrow)
        have HN := Lib.hid (nil_own hown' (by omega))
        clear hown hown' hgrow hbel
        go_wp2_with fail
        go_roundw
        case rel => exact ⟨y / 10, by omega, by go_num, HR.out⟩
        case measure => rw [HN.out]; simp [intOf, nilN]; omega
set_option maxRecDepth 100000 in
set_option maxHeartbeats 1000000 in
theorem decimal_neg (x : Nat) (h1 : 0 < x) (hx : x ≤ 4000000000) (w : World) (z : Int) (hz : z = -(x : Int)) : Calls Tryd.prog 31 #[.int .i64 z] w fun e w' => e = .returned (.string ⟨(45 :: decL x).toArray⟩) ∧ Below w.heap.size w w' := by
  subst hz
  obtain ⟨i0, hi, hz0, hz1, hz2⟩ := info_parts rinfoByte
  go_enter Tryd.func31, Tryd.ntmps31
  go_wp2
  go_loopw [3, 4] (fun n out wr => ∃ y : Nat, y ≤ x ∧ n = .int .u64 y ∧ DecRel x w wr y out) (fun n out _ => (intOf n).toNat * 2 + nilN out)
  case atStart => exact ⟨x, Nat.le_refl _, by go_num, [], .inl ⟨rfl, rfl⟩, World.ownsRow_nil _ _ _ _, Below.refl _ _, fun _ => rfl⟩
  case round =>
    obtain ⟨y, hy, rfl, l, hd, hown, hbel, hnil⟩ := hrel
    have HD := Lib.hid hd
    have hlen : l.length ≤ 11 := dr_len hd (by omega)
    clear hd
    rcases hown.2 with ⟨rfl, h0⟩ | ⟨g, cap, cur, rfl, hgb, hgc, hnc, hcm, hcs, htk⟩
    · have h0 : l = [] := List.length_eq_zero_iff.1 h0
      have H0 := Lib.hid h0
      clear h0 hown
      by_cases hy0 : y = 0
      · subst hy0
        go_wp2_with fail
        go_roundw
        case rel => exact ⟨0, by omega, rfl, dec_first HD.out H0.out hbel⟩
        case measure => show _ < _; simp [intOf, nilN]
      · have hpos : 0 < y := by omega
        go_wp2_with fail
        go_roundw
        case rel => exact ⟨y / 10, by omega, by go_num, dec_first HD.out H0.out hbel⟩
        case measure => simp [intOf, nilN]; omega
    · clear hgc hnc hcm hcs htk
      by_cases hy0 : y = 0
      · subst hy0
        have hl : l ≠ [] := fun e => by have := hnil e; cases this
        have hpos : 0 < l.length := List.length_pos_iff.2 hl
        have HT := Lib.hid (dr_done HD.out hl)
        clear hnil hl HD
        go_wp2_with (at_builtin; (refine wpList_append_own_at _ rfl _ _ 53 rfl wr.heap.size 5 i0 (.int .u8 0) 1 1 (by kernel_rfl) hi hz0 hz1 hz2 rfl (by decide) _ 1 [.int .u8 45] rfl (World.ownsRow_lit wr #[.int .u8 45] 1 (Nat.le_refl _) (by decide) rfl) ⟨g, 0, none⟩ l.length cap (Lib.byteCells l) rfl (by simp [Lib.byteCells]) ((hown.alloc _).cells rfl) (one_cells l) (by unfold maxLen; omega) (by omega) (by rw [World.size_alloc]; omega) ?_))
        intro v' w1 hown' hgrow _ _
        have ho2 : w1.ownsRow wr.heap.size 5 1 v' (45 :: l).length (Lib.byteCells (45 :: l)) := by
          rw [List.length_cons, Nat.add_comm]
          exact hown'
        have hstr := string_own ho2
        have hb1 : Below w.heap.size w w1 := by
          refine (hbel.alloc hbel.size _).grown hgrow ?_ ?_
          · rw [World.size_alloc]; have := hbel.size; omega
          · intro k hk
            cases hk
            exact hbel.size
        clear hown hown' hgrow ho2
        go_wp2_with fail
        go_ret
        exact ⟨by rw [← HT.out]; rfl, hb1⟩
      · clear hnil
        have hpos : 0 < y := by omega
        go_wp2_with (at_builtin; (refine wpList_append_own_at _ rfl _ _ 53 rfl wr.heap.size 5 i0 (.int .u8 0) 1 1 (by kernel_rfl) hi hz0 hz1 hz2 rfl (by decide) _ 1 [.int .u8 (48 + (y : Int) % 10)] rfl (World.ownsRow_lit wr #[.int .u8 (48 + (y : Int) % 10)] 1 (Nat.le_refl _) (by decide) rfl) ⟨g, 0, none⟩ l.length cap (Lib.byteCells l) rfl (by simp [Lib.byteCells]) ((hown.alloc _).cells rfl) (one_cells l) (by unfold maxLen; omega) (by omega) (by rw [World.size_alloc]; omega) ?_))
        intro v' w1 hown' hgrow _ _
        have HR := Lib.hid (dec_next HD.out (.inl hpos) hbel hown' hgrow)
        have HN := Lib.hid (nil_own hown' (by omega))
        clear hown hown' hgrow hbel
        go_wp2_with fail
        go_roundw
        case rel => exact ⟨y / 10, by omega, by go_num, HR.out⟩
        case measure => rw [HN.out]; simp [intOf, nilN]; omega
theorem decimal_any (z : Int) (h1 : -4000000000 ≤ z) (h2 : z ≤ 4000000000) (w : World) : Calls Tryd.prog 31 #[.int .i64 z] w fun e w' => e = .returned (.string ⟨((if z < 0 then [45] else []) ++ decL z.natAbs).toArray⟩) ∧ Below w.heap.size w w' := by
  by_cases h : z < 0
  · have := decimal_neg z.natAbs (by omega) (by omega) w z (by omega)
    rw [if_pos h]
    exact this
  · have := decimal_pos z.natAbs (by omega) w z (by omega)
    rw [if_neg h]
    exact this
/-- case, byte by byte, under way. -/
def mixF (f : UInt8 → UInt8) (l : List UInt8) (k : Nat) : List UInt8 := (l.take k).map f ++ l.drop k
theorem mixF_len (f : UInt8 → UInt8) (l : List UInt8) (k : Nat) : (mixF f l k).length = l.length := by unfold mixF; simp; omega
theorem mixF_at (f : UInt8 → UInt8) (l : List UInt8) (k : Nat) (h : k < l.length) (h2 : k < (mixF f l k).length) : (mixF f l k)[k] = l[k] := by
  have e : (mixF f l k)[k]? = some l[k] := by
    unfold mixF
    have hk : ((l.take k).map f).length = k := by simp; omega
    rw [List.getElem?_append_right (by omega), hk, Nat.sub_self, List.getElem?_drop, Nat.add_zero, List.getElem?_eq_getElem h]
  rw [List.getElem?_eq_getElem h2] at e
  exact Option.some.inj e
theorem mixF_step (f : UInt8 → UInt8) (l : List UInt8) (k : Nat) (h : k < l.length) : (mixF f l k).set k (f l[k]) = mixF f l (k + 1) := by
  unfold mixF
  have hk : ((l.take k).map f).length = k := by simp; omega
  have e : (l.take (k + 1)).map f = (l.take k).map f ++ [f l[k]] := by
    rw [List.take_add_one, List.getElem?_eq_getElem h, List.map_append]
    rfl
  rw [List.set_append_right _ _ (by omega), hk, Nat.sub_self, List.drop_eq_getElem_cons h, List.set_cons_zero, e, List.append_assoc]
  rfl
theorem mixF_same (f : UInt8 → UInt8) (l : List UInt8) (k : Nat) (h : k < l.length) (e : f l[k] = l[k]) : mixF f l k = mixF f l (k + 1) := by
  rw [← mixF_step f l k h, e]
  have h2 : k < (mixF f l k).length := by rw [mixF_len]; exact h
  rw [← mixF_at f l k h h2, List.set_getElem_self]
theorem mixF_done (f : UInt8 → UInt8) (l : List UInt8) : mixF f l l.length = l.map f := by unfold mixF; simp
theorem lowerB_of (c : UInt8) : Lib.lowerB c = if 65 ≤ c.toNat ∧ c.toNat ≤ 90 then c + 32 else c := all_bytes (P := fun c => Lib.lowerB c = if 65 ≤ c.toNat ∧ c.toNat ≤ 90 then c + 32 else c) (by decide +kernel) c
theorem add32 (c : UInt8) (h : c.toNat ≤ 90) : (c + 32).toNat = c.toNat + 32 := by
  rw [UInt8.toNat_add]
  show (c.toNat + 32) % 256 = _
  omega
set_option maxRecDepth 100000 in
set_option maxHeartbeats 1000000 in
theorem small_ref (s : ByteArray) (w : World) (hs : s.size ≤ 16777216) : Calls Tryd.prog 28 #[.string s] w fun e w' => e = .returned (.string ⟨(Lib.toLowerA s.data.toList).toArray⟩) ∧ Below w.heap.size w w' := by
  have hbb := bytes_below w s
  have hbr := brow_new w s
  have hcv := Lib.run_convert_string_bytes (P := Tryd.prog) (u := .string) w 9 53 5 s (by kernel_rfl) (by kernel_rfl) (by kernel_rfl)
  generalize Lib.bytesWorld w 5 s = w1 at *
  generalize grownCap w s.size 0 5 = cp at *
  have HB := Lib.hid hbb
  have HR := Lib.hid hbr
  clear hbb hbr
  go_enter Tryd.func28, Tryd.ntmps28
  go_wp2_with fail
  go_loopw [4] (fun i wr => ∃ k : Nat, k ≤ s.size ∧ i = .int .i64 k ∧ BRow wr w.heap.size w.heap.size (mixF Lib.lowerB s.data.toList k) ∧ Below w.heap.size w wr) (fun i _ => s.size - (intOf i).toNat)
  case atStart => exact ⟨0, Nat.zero_le _, rfl, HR.out, HB.out⟩
  case round =>
    obtain ⟨k, hk, rfl, hrow, hbel⟩ := hrel
    have hml := mixF_len Lib.lowerB s.data.toList k
    rw [ofl] at hml
    by_cases hlt : k < s.size
    · have hlt2 : k < s.data.toList.length := by rw [ofl]; exact hlt
      have hcell := hrow.cell k (by omega)
      rw [mixF_at _ _ _ hlt2] at hcell
      have hfz := hrow.fz k (by omega)
      have hsk : s.data.toList[k] = s[k] := rfl
      have hst := mixF_step Lib.lowerB s.data.toList k hlt2
      have hsame := mixF_same Lib.lowerB s.data.toList k hlt2
      rw [hsk] at hcell hst hsame
      rw [lowerB_of] at hst hsame
      have hu := s[k].toNat_lt
      have hset := fun c => hrow.set k (by omega) c
      by_cases h1 : 65 ≤ s[k].toNat ∧ s[k].toNat ≤ 90
      · rw [if_pos h1] at hst
        obtain ⟨h1, h2⟩ := h1
        have hset2 := hset (s[k] + 32)
        rw [hst, add32 _ h2] at hset2
        have HS := Lib.hid hset2
        clear hst hsame hset hset2 hrow hsk hml
        go_wp2_with fail
        go_roundw
        case rel => exact ⟨k + 1, by omega, by go_num, HS.out, hbel.setCell (Nat.le_refl _) _⟩
        case measure => simp [intOf]; omega
      · rw [if_neg h1] at hsame
        have HS := Lib.hid (hsame rfl)
        have HR2 := Lib.hid hrow
        have h3 : s[k].toNat < 65 ∨ 90 < s[k].toNat := by omega
        clear hst hsame hset hrow hsk hml h1
        rcases h3 with h3 | h3
        · go_wp2_with fail
          go_roundw
          case rel => exact ⟨k + 1, by omega, by go_num, by rw [← HS.out]; exact HR2.out, hbel⟩
          case measure => simp [intOf]; omega
        · go_wp2_with fail
          go_roundw
          case rel => exact ⟨k + 1, by omega, by go_num, by rw [← HS.out]; exact HR2.out, hbel⟩
          case measure => simp [intOf]; omega
    · obtain rfl : k = s.size := by omega
      have hstr := brow_string (cap := cp) hrow
      rw [hml] at hstr
      have HT := Lib.hid (show mixF Lib.lowerB s.data.toList s.size = Lib.toLowerA s.data.toList by rw [← ofl, mixF_done]; rfl)
      rw [HT.out] at hstr
      clear hml hrow
      go_wp2_with fail
      go_ret
      exact ⟨rfl, hbel⟩
end Go.Proofs.YthnchejhcmpipaaDoor
