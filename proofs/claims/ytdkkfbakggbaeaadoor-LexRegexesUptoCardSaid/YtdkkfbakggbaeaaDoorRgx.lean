/- LexRegexes: a regular expression ends at the first / that no class and no escape holds: plain, and the function. Conditions: the argument's cells hold ints; the library's tables. -/
import Derived.Test.YtdkkfbakggbaeaaDoorTpl
namespace Go.Proofs.YtdkkfbakggbaeaaDoor
open Go.RowKit

def rItem : Nat → List UInt8
  | 0 => [97]
  | 1 => [92, 47]
  | 2 => [91, 47, 93]
  | 3 => [91, 94, 92, 93, 47, 93]
  | 4 => [42]
  | 5 => [92, 91]
  | 6 => [40]
  | 7 => [93]
  | 8 => [230, 151, 165]
  | _ => []
def rText (ks : List Nat) : List UInt8 := ks.flatMap rItem
theorem rText_snoc (ks : List Nat) (k : Nat) : rText (ks ++ [k]) = rText ks ++ rItem k := by simp [rText]
/-- an ordinary character. -/
theorem rgx_char (first cls : Bool) (c : UInt8) (rest : List UInt8) (h : 33 ≤ c.toNat ∧ c.toNat < 127) (h1 : c ≠ 92) (h2 : ¬ (c = 47 ∧ cls = false)) (h3 : first = true → c ≠ 42 ∧ c ≠ 47) :
    rgx first cls (c :: rest) = (rgx false (clsN ((c.toNat : Nat) : Int) cls) rest).shift 1 := by
  have hn := nx_ascii c rest (by omega)
  have hends : endsR ((c.toNat : Nat) : Int) = false := by
    have hall : ∀ c : Fin 256, 33 ≤ c.val → c.val < 127 → endsR ((c.val : Nat) : Int) = false := by decide +kernel
    exact hall ⟨c.toNat, c.toNat_lt⟩ h.1 h.2
  have hi : ∀ (a : UInt8) (n : Int), n = ((a.toNat : Nat) : Int) → c ≠ a → ¬ ((c.toNat : Nat) : Int) = n := fun a n hn ha e => ha (UInt8.toNat.inj (by omega))
  have he : escC ((c.toNat : Nat) : Int) = 0 := by unfold escC; rw [if_neg (hi 92 92 rfl h1)]
  rw [rgx_step, hn, if_neg, if_neg, if_neg (fun e => hi 92 92 rfl h1 e.1), he]
  · simp only [List.drop_zero, Nat.zero_add, hn]
    rfl
  · rintro ⟨e, hc⟩
    exact h2 ⟨UInt8.toNat.inj (by have : (47 : UInt8).toNat = 47 := rfl; omega), hc⟩
  · rintro (e | ⟨_, e⟩ | ⟨e, e2⟩)
    · exact absurd (show (1 : Int) = 0 from e) (by decide)
    · simp only [hends] at e
      cases e
    · obtain ⟨k1, k2⟩ := h3 e
      rcases e2 with e2 | e2
      · exact hi 42 42 rfl k1 e2
      · exact hi 47 47 rfl k2 e2
theorem rgx_esc (cls : Bool) (c : UInt8) (rest : List UInt8) (h : 33 ≤ c.toNat ∧ c.toNat < 127) : rgx false cls (92 :: c :: rest) = (rgx false cls rest).shift 2 := by
  have hn := nx_ascii 92 (c :: rest) (by decide)
  have hn2 := nx_ascii c rest (by omega)
  have hends : endsR ((c.toNat : Nat) : Int) = false := by
    have hall : ∀ c : Fin 256, 33 ≤ c.val → c.val < 127 → endsR ((c.val : Nat) : Int) = false := by decide +kernel
    exact hall ⟨c.toNat, c.toNat_lt⟩ h.1 h.2
  have he : escC (((92 : UInt8).toNat : Nat) : Int) = 1 := rfl
  have hc1 : ¬ ((((92 : UInt8).toNat : Nat) : Int), (1 : Int)).2 = 0 := by decide
  rw [rgx_step, hn]
  rw [if_neg (show ¬ _ from by
    rintro (e | ⟨_, e⟩ | ⟨e, _⟩)
    · exact hc1 e
    · exact absurd (show endsR 92 = true from e) (by decide +kernel)
    · cases e)]
  rw [if_neg (show ¬ _ from by
    rintro ⟨e, _⟩
    exact absurd (show (92 : Int) = 47 from e) (by decide))]
  simp only [List.drop_succ_cons, List.drop_zero, hn2, he]
  rw [if_neg (show ¬ _ from by
    rintro ⟨_, e | ⟨_, e⟩⟩
    · exact absurd (show (1 : Int) = 0 from e) (by decide)
    · rw [hends] at e; cases e)]
  rfl
theorem rgx_day (rest : List UInt8) : rgx false false (230 :: 151 :: 165 :: rest) = (rgx false false rest).shift 3 := by
  have e : nx [230, 151, 165] = (26085, 3) := by kernel_rfl
  have hn : nx (230 :: 151 :: 165 :: rest) = (26085, 3) := by
    have := nx_app (l := [230, 151, 165]) rest (by rw [e]; decide)
    rw [e] at this
    exact this
  rw [rgx_step, hn, if_neg, if_neg (by rintro ⟨e, _⟩; exact absurd e (by decide)), if_neg (by rintro ⟨e, _⟩; exact absurd e (by decide))]
  · simp only [show escC 26085 = 0 from rfl, List.drop_zero, Nat.zero_add, hn]
    rfl
  · rintro (e | ⟨_, e⟩ | ⟨e, _⟩)
    · exact absurd e (by decide)
    · exact absurd e (by decide +kernel)
    · cases e
theorem rgx_item (k : Nat) (hk : k < 9) (rest : List UInt8) : rgx false false (rItem k ++ rest) = (rgx false false rest).shift (rItem k).length := by
  have hc : k = 0 ∨ k = 1 ∨ k = 2 ∨ k = 3 ∨ k = 4 ∨ k = 5 ∨ k = 6 ∨ k = 7 ∨ k = 8 := by omega
  rcases hc with rfl | rfl | rfl | rfl | rfl | rfl | rfl | rfl | rfl
  · exact rgx_char false false 97 rest (by decide) (by decide) (by decide) (by decide)
  · exact rgx_esc false 47 rest (by decide)
  · show rgx false false (91 :: 47 :: 93 :: rest) = _
    rw [rgx_char false false 91 _ (by decide) (by decide) (by decide) (by decide)]
    show (rgx false true (47 :: 93 :: rest)).shift 1 = _
    rw [rgx_char false true 47 _ (by decide) (by decide) (by decide) (by decide)]
    show ((rgx false true (93 :: rest)).shift 1).shift 1 = _
    rw [rgx_char false true 93 _ (by decide) (by decide) (by decide) (by decide), TpO.shift_shift, TpO.shift_shift]
    rfl
  · show rgx false false (91 :: 94 :: 92 :: 93 :: 47 :: 93 :: rest) = _
    rw [rgx_char false false 91 _ (by decide) (by decide) (by decide) (by decide)]
    show (rgx false true (94 :: 92 :: 93 :: 47 :: 93 :: rest)).shift 1 = _
    rw [rgx_char false true 94 _ (by decide) (by decide) (by decide) (by decide)]
    show ((rgx false true (92 :: 93 :: 47 :: 93 :: rest)).shift 1).shift 1 = _
    rw [rgx_esc true 93 _ (by decide), rgx_char false true 47 _ (by decide) (by decide) (by decide) (by decide)]
    show ((((rgx false true (93 :: rest)).shift 1).shift 2).shift 1).shift 1 = _
    rw [rgx_char false true 93 _ (by decide) (by decide) (by decide) (by decide), TpO.shift_shift, TpO.shift_shift, TpO.shift_shift, TpO.shift_shift]
    rfl
  · exact rgx_char false false 42 rest (by decide) (by decide) (by decide) (by decide)
  · exact rgx_esc false 91 rest (by decide)
  · exact rgx_char false false 40 rest (by decide) (by decide) (by decide) (by decide)
  · exact rgx_char false false 93 rest (by decide) (by decide) (by decide) (by decide)
  · exact rgx_day rest
theorem rgx_text : ∀ (ks : List Nat), (∀ k ∈ ks, k < 9) → ∀ rest, rgx false false (rText ks ++ rest) = (rgx false false rest).shift (rText ks).length
  | [], _, rest => (TpO.shift_zero _).symm
  | k :: ks, h, rest => by
    have e : rText (k :: ks) = rItem k ++ rText ks := by simp [rText]
    rw [e, List.append_assoc, rgx_item k (h k (.head _)), rgx_text ks (fun j hj => h j (.tail _ hj)) rest, TpO.shift_shift, List.length_append]
theorem rgx_end : rgx false false [47, 103, 49] = .fine 3 false := by kernel_rfl
theorem rgx_line : rgx false false [10, 47] = .bad 0 506 := by kernel_rfl
theorem rgx_whole (ks : List Nat) (hks : ∀ k ∈ ks, k < 9) (rest : List UInt8) : rgx true false (120 :: (rText ks ++ rest)) = (rgx false false rest).shift ((rText ks).length + 1) := by
  rw [rgx_char true false 120 _ (by decide) (by decide) (by decide) (by decide)]
  show (rgx false false (rText ks ++ rest)).shift 1 = _
  rw [rgx_text ks hks rest, TpO.shift_shift, Nat.add_comm]
def rD (S : ByteArray) : ByteArray := S ++ ⟨#[47, 103, 49]⟩
def rE (S : ByteArray) : ByteArray := S ++ ⟨#[10, 47]⟩
theorem plain_rgx (rest : List UInt8) : plainT 2 (47 :: rest) = rgTk (47 :: rest) (rgx true false rest) := by
  unfold plainT
  rw [if_neg (by simp), if_neg (by rw [pre_head (by decide)]; decide), if_neg (by rw [pre_head (by decide)]; decide), if_neg, if_neg (by rw [pre_head (by decide), pre_head (by decide)]; decide), if_pos ⟨rfl, rfl⟩]
  · rfl
  · rintro (hd | ⟨hd, _⟩)
    · cases hd
    · rw [pre_head (by decide)] at hd
      cases hd
theorem slash_kind (rest : List UInt8) : isGap (47 :: 120 :: rest) = false ∧ cmKind 0 (47 :: 120 :: rest) = 0 := ⟨low_gap 47 _ (by decide) (by decide), rfl⟩
theorem only_R {S : ByteArray} {ks : List Nat} (hks : ∀ k ∈ ks, k < 9) (hS : S.data.toList = 47 :: 120 :: rText ks) : onlyB (rD S) 2 6 = true := by
  have hl : (rD S).data.toList = 47 :: 120 :: (rText ks ++ [47, 103, 49]) := by unfold rD; simp [ByteArray.data_append, hS]
  have hsz : (rD S).size = (rText ks).length + 5 := by rw [← ofl, hl]; simp
  refine only_of (rD S) 2 6 (.inr (.inl rfl)) (by rw [hl]; exact (slash_kind _).1) (by rw [hl]; exact (slash_kind _).2) ?_
  rw [hl, hsz]
  unfold tokT
  rw [if_neg (by omega), if_neg (by omega), if_neg (by omega), plain_rgx, rgx_whole ks hks, rgx_end]
  show aft _ 6 (1 + ((rText ks).length + 1 + 3)) = _
  rw [show 1 + ((rText ks).length + 1 + 3) = (rText ks).length + 5 by omega]
  exact aft_end (by simp)
theorem nxt_R {S : ByteArray} {ks : List Nat} (hks : ∀ k ∈ ks, k < 9) (hS : S.data.toList = 47 :: 120 :: rText ks) : nxt (rE S) 0 2 = .bad 0 506 := by
  have hl : (rE S).data.toList = 47 :: 120 :: (rText ks ++ [10, 47]) := by unfold rE; simp [ByteArray.data_append, hS]
  rw [nxt_zero (rE S) 2 (.inr (.inl rfl)) (by rw [hl]; exact (slash_kind _).1) (by rw [hl]; exact (slash_kind _).2), hl]
  have ht : tokT 2 (47 :: 120 :: (rText ks ++ [10, 47])) = .bad 0 506 := by
    unfold tokT
    rw [if_neg (by omega), if_neg (by omega), if_neg (by omega), plain_rgx, rgx_whole ks hks, rgx_line]
    rfl
  rw [ht]
  rfl
def RgRel2 (w wr : World) (k : Nat) (s : Value) : Prop :=
  ∃ (ks : List Nat) (S : ByteArray), k = ks.length ∧ s = .string S ∧ S.data.toList = 47 :: 120 :: rText ks ∧ (∀ k ∈ ks, k < 9) ∧ S.size ≤ 2 + 6 * k ∧ Below w.heap.size w wr
theorem rg_step {w wr' : World} {k : Nat} {ks : List Nat} {S : ByteArray} (hS : S.data.toList = 47 :: 120 :: rText ks) (hks : ∀ k ∈ ks, k < 9) (hSs : S.size ≤ 2 + 6 * k) (hk : k = ks.length) (j : Nat) (hj : j < 9) (item : ByteArray) (hi : item.data.toList = rItem j) (h3 : item.size ≤ 6) (hb : Below w.heap.size w wr') :
    RgRel2 w wr' (k + 1) (.string (S ++ item)) := by
  refine ⟨ks ++ [j], _, by simp [hk], rfl, ?_, ?_, ?_, hb⟩
  · rw [rText_snoc, ← hi]
    simp [ByteArray.data_append, hS]
  · intro x hx
    rcases List.mem_append.1 hx with h | h
    · exact hks x h
    · simp at h; omega
  · rw [ByteArray.size_append]
    omega
set_option maxRecDepth 20000 in
set_option maxHeartbeats 8000000 in
theorem regexes_any (ao : Option Addr) (len cap : Nat) (w : World) (hc : IntsArg w ao len) (hl : len ≤ 33554432) (hX : Lx w) :
    Calls Tryd.prog 10 #[.slice ao len cap] w fun e w' => e = .returned (.bool true) ∧ Below w.heap.size w w' := by
  have HC := Lib.hid hc
  have HA := Lib.hid (lawake_any w hX)
  have HX := Lib.hid hX
  clear hc hX
  go_enter Tryd.func10, Tryd.ntmps10
  go_wp2_with (go_at_call 13; refine HA.out.mono ?_; rintro e w1 ⟨rfl, hb1⟩)
  go_loopw [3, 4] (fun s i wr => ∃ k : Nat, k ≤ len ∧ k ≤ 20 ∧ i = .int .i64 k ∧ RgRel2 w wr k s) (fun _ i _ => 20 - (intOf i).toNat)
  case atStart => exact ⟨0, Nat.zero_le _, by omega, rfl, [], _, rfl, rfl, rfl, (fun _ h => (by cases h)), Nat.le_refl 2, hb1⟩
  case round =>
    clear hb1
    obtain ⟨k, hk, hk20, rfl, ks, S, hkl, rfl, hS, hks, hSs, hbel⟩ := hrel
    have HS := Lib.hid hS
    have HK := Lib.hid hkl
    have HKS := Lib.hid hks
    clear hS hkl hks
    by_cases hlt : k < len ∧ k < 20
    · obtain ⟨hlt, hlt20⟩ := hlt
      obtain ⟨b, off, rfl, hb, z, hz⟩ := HC.out k hlt
      rw [← hbel.cell (p := ⟨b, off + k, none⟩) hb] at hz
      have hz2 := fun o => ((Below.alloc (Below.refl _ wr) (Nat.le_refl _) o).cell (p := ⟨b, off + k, none⟩) (Nat.lt_of_lt_of_le hb hbel.size)).trans hz
      go_upto_region 7 with fail
      have hr0 : 0 ≤ (IntKind.u64.wrap z).tmod 9 ∧ (IntKind.u64.wrap z).tmod 9 < 9 := by
        have e : IntKind.u64.wrap z = z % 18446744073709551616 := rfl
        rw [e, Int.tmod_eq_emod_of_nonneg (by omega)]
        omega
      have h10 : ∀ r : Int, 0 ≤ r ∧ r < 9 → r = 0 ∨ r = 1 ∨ r = 2 ∨ r = 3 ∨ r = 4 ∨ r = 5 ∨ r = 6 ∨ r = 7 ∨ r = 8 := by omega
      rcases h10 _ hr0 with hm | hm | hm | hm | hm | hm | hm | hm | hm
      · clear hr0 h10 HC
        go_wp2_with fail
        go_roundw
        case rel => exact ⟨k + 1, hlt, by omega, by congr, rg_step HS.out HKS.out hSs HK.out 0 (by decide) _ rfl (by decide) (below_alloc2' hbel _)⟩
        case measure => simp [intOf]; omega
      · clear hr0 h10 HC
        go_wp2_with fail
        go_roundw
        case rel => exact ⟨k + 1, hlt, by omega, by congr, rg_step HS.out HKS.out hSs HK.out 1 (by decide) _ rfl (by decide) (below_alloc2' hbel _)⟩
        case measure => simp [intOf]; omega
      · clear hr0 h10 HC
        go_wp2_with fail
        go_roundw
        case rel => exact ⟨k + 1, hlt, by omega, by congr, rg_step HS.out HKS.out hSs HK.out 2 (by decide) _ rfl (by decide) (below_alloc2' hbel _)⟩
        case measure => simp [intOf]; omega
      · clear hr0 h10 HC
        go_wp2_with fail
        go_roundw
        case rel => exact ⟨k + 1, hlt, by omega, by congr, rg_step HS.out HKS.out hSs HK.out 3 (by decide) _ rfl (by decide) (below_alloc2' hbel _)⟩
        case measure => simp [intOf]; omega
      · clear hr0 h10 HC
        go_wp2_with fail
        go_roundw
        case rel => exact ⟨k + 1, hlt, by omega, by congr, rg_step HS.out HKS.out hSs HK.out 4 (by decide) _ rfl (by decide) (below_alloc2' hbel _)⟩
        case measure => simp [intOf]; omega
      · clear hr0 h10 HC
        go_wp2_with fail
        go_roundw
        case rel => exact ⟨k + 1, hlt, by omega, by congr, rg_step HS.out HKS.out hSs HK.out 5 (by decide) _ rfl (by decide) (below_alloc2' hbel _)⟩
        case measure => simp [intOf]; omega
      · clear hr0 h10 HC
        go_wp2_with fail
        go_roundw
        case rel => exact ⟨k + 1, hlt, by omega, by congr, rg_step HS.out HKS.out hSs HK.out 6 (by decide) _ rfl (by decide) (below_alloc2' hbel _)⟩
        case measure => simp [intOf]; omega
      · clear hr0 h10 HC
        go_wp2_with fail
        go_roundw
        case rel => exact ⟨k + 1, hlt, by omega, by congr, rg_step HS.out HKS.out hSs HK.out 7 (by decide) _ rfl (by decide) (below_alloc2' hbel _)⟩
        case measure => simp [intOf]; omega
      · clear hr0 h10 HC
        go_wp2_with fail
        go_roundw
        case rel => exact ⟨k + 1, hlt, by omega, by congr, rg_step HS.out HKS.out hSs HK.out 8 (by decide) _ rfl (by decide) (below_alloc2' hbel _)⟩
        case measure => simp [intOf]; omega
    · have hend : k = len ∨ (k = 20 ∧ 20 < len) := by omega
      rcases hend with rfl | ⟨rfl, hl20⟩
      · have hS2 : S.size ≤ 122 := by omega
        have hC1 := fun W h => Next_any (rE S) 0 2 W (by unfold rE; simp only [ByteArray.size_append]; show S.size + 2 ≤ _; omega) (Nat.zero_le _) h 0 rfl
        rw [nxt_R HKS.out HS.out] at hC1
        simp only [NxPost, Tk.val, Tk.cells, Tk.zero] at hC1
        have hD1 := fun W h => only_any (rD S) 2 6 W (by unfold rD; simp only [ByteArray.size_append]; show S.size + 3 ≤ _; omega) h
        rw [only_R HKS.out HS.out] at hD1
        unfold rE at hC1
        unfold rD at hD1
        have HC1 := Lib.hid hC1
        have HD1 := Lib.hid hD1
        have hb := hbel
        clear hC1 hD1 HC HS HK HKS hbel
        go_upto_region 9 with (go_at_call 14; refine (HC1.out _ (HX.out.bel hb)).mono ?_; rintro e w5 ⟨rfl, hb5⟩; replace hb := bel_next hb hb5; clear hb5)
        replace hb := hb.alloc hb.size (.cells #[.int .i64 0, .string ⟨#[]⟩, .int .i64 0, .int .i64 0, .bool false] 24)
        generalize World.alloc w5 _ = w6 at *
        go_wp2_with (first | (go_at_call 17; refine (HD1.out _ (HX.out.bel hb)).mono ?_; rintro e w9 ⟨rfl, hb9⟩; replace hb := bel_next hb hb9; clear hb9) | (go_at_call 15; refine (lnum_any _ _).mono ?_; rintro e w' ⟨rfl, rfl⟩))
        go_ret
        exact ⟨rfl, hb⟩
      · have hS2 : S.size ≤ 122 := by omega
        have hC1 := fun W h => Next_any (rE S) 0 2 W (by unfold rE; simp only [ByteArray.size_append]; show S.size + 2 ≤ _; omega) (Nat.zero_le _) h 0 rfl
        rw [nxt_R HKS.out HS.out] at hC1
        simp only [NxPost, Tk.val, Tk.cells, Tk.zero] at hC1
        have hD1 := fun W h => only_any (rD S) 2 6 W (by unfold rD; simp only [ByteArray.size_append]; show S.size + 3 ≤ _; omega) h
        rw [only_R HKS.out HS.out] at hD1
        unfold rE at hC1
        unfold rD at hD1
        have HC1 := Lib.hid hC1
        have HD1 := Lib.hid hD1
        have hb := hbel
        clear hC1 hD1 HC HS HK HKS hbel
        go_upto_region 9 with (go_at_call 14; refine (HC1.out _ (HX.out.bel hb)).mono ?_; rintro e w5 ⟨rfl, hb5⟩; replace hb := bel_next hb hb5; clear hb5)
        replace hb := hb.alloc hb.size (.cells #[.int .i64 0, .string ⟨#[]⟩, .int .i64 0, .int .i64 0, .bool false] 24)
        generalize World.alloc w5 _ = w6 at *
        go_wp2_with (first | (go_at_call 17; refine (HD1.out _ (HX.out.bel hb)).mono ?_; rintro e w9 ⟨rfl, hb9⟩; replace hb := bel_next hb hb9; clear hb9) | (go_at_call 15; refine (lnum_any _ _).mono ?_; rintro e w' ⟨rfl, rfl⟩))
        go_ret
        exact ⟨rfl, hb⟩
end Go.Proofs.YtdkkfbakggbaeaaDoor
