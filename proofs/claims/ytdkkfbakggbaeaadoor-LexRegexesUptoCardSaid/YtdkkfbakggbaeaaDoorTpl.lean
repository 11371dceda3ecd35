/- LexTemplates: a template's piece is a token, whatever is escaped in it: plain, and the function. Conditions: the argument's cells hold ints; the library's tables. -/
import Derived.Test.YtdkkfbakggbaeaaDoorNamM
namespace Go.Proofs.YtdkkfbakggbaeaaDoor
open Go.RowKit

def tItem : Nat → List UInt8
  | 0 => [97]
  | 1 => [92, 96]
  | 2 => [92, 36, 123]
  | 3 => [36, 97]
  | 4 => [123]
  | 5 => [125]
  | 6 => [10]
  | 7 => [92, 92]
  | 8 => [230, 151, 165]
  | 9 => [47, 47]
  | _ => []
def tText (ks : List Nat) : List UInt8 := ks.flatMap tItem
theorem tText_snoc (ks : List Nat) (k : Nat) : tText (ks ++ [k]) = tText ks ++ tItem k := by simp [tText]
theorem tpl_char (c : UInt8) (rest : List UInt8) (h : c.toNat < 128) (h1 : c ≠ 96) (h2 : c ≠ 92) (h3 : Lib.hasPrefix (c :: rest) [36, 123] = false) : tpl (c :: rest) = (tpl rest).shift 1 := by
  have he : esc (c :: rest) = 0 := by unfold esc; rw [pre_head h2]; rfl
  rw [tpl_step, pre_head h1, h3, he]
  simp only [List.drop_zero, Nat.zero_add, nx_ascii c rest h, Bool.false_eq_true, if_false]
  rfl
theorem tpl_esc (c : UInt8) (rest : List UInt8) (h : c.toNat < 128) : tpl (92 :: c :: rest) = (tpl rest).shift 2 := by
  have he : esc (92 :: c :: rest) = 1 := rfl
  rw [tpl_step, pre_head (by decide), pre_head (by decide), he]
  simp only [List.drop_succ_cons, List.drop_zero, nx_ascii c rest h, Bool.false_eq_true, if_false]
  rfl
theorem tpl_day (rest : List UInt8) : tpl (230 :: 151 :: 165 :: rest) = (tpl rest).shift 3 := by
  have he : esc (230 :: 151 :: 165 :: rest) = 0 := by unfold esc; rw [pre_head (by decide)]; rfl
  have e : nx [230, 151, 165] = (26085, 3) := by kernel_rfl
  have hn : nx (230 :: 151 :: 165 :: rest) = (26085, 3) := by
    have := nx_app (l := [230, 151, 165]) rest (by rw [e]; decide)
    rw [e] at this
    exact this
  rw [tpl_step, pre_head (by decide), pre_head (by decide), he]
  simp only [List.drop_zero, Nat.zero_add, hn, Bool.false_eq_true, if_false]
  rfl
theorem tpl_item (k : Nat) (hk : k < 10) (rest : List UInt8) : tpl (tItem k ++ rest) = (tpl rest).shift (tItem k).length := by
  have hc : k = 0 ∨ k = 1 ∨ k = 2 ∨ k = 3 ∨ k = 4 ∨ k = 5 ∨ k = 6 ∨ k = 7 ∨ k = 8 ∨ k = 9 := by omega
  rcases hc with rfl | rfl | rfl | rfl | rfl | rfl | rfl | rfl | rfl | rfl
  · exact tpl_char 97 rest (by decide) (by decide) (by decide) (pre_head (by decide))
  · exact tpl_esc 96 rest (by decide)
  · show tpl (92 :: 36 :: 123 :: rest) = _
    rw [tpl_esc 36 _ (by decide), tpl_char 123 rest (by decide) (by decide) (by decide) (pre_head (by decide)), TpO.shift_shift]
    rfl
  · show tpl (36 :: 97 :: rest) = _
    rw [tpl_char 36 _ (by decide) (by decide) (by decide) rfl, tpl_char 97 rest (by decide) (by decide) (by decide) (pre_head (by decide)), TpO.shift_shift]
    rfl
  · exact tpl_char 123 rest (by decide) (by decide) (by decide) (pre_head (by decide))
  · exact tpl_char 125 rest (by decide) (by decide) (by decide) (pre_head (by decide))
  · exact tpl_char 10 rest (by decide) (by decide) (by decide) (pre_head (by decide))
  · exact tpl_esc 92 rest (by decide)
  · exact tpl_day rest
  · show tpl (47 :: 47 :: rest) = _
    rw [tpl_char 47 _ (by decide) (by decide) (by decide) (pre_head (by decide)), tpl_char 47 rest (by decide) (by decide) (by decide) (pre_head (by decide)), TpO.shift_shift]
    rfl
theorem tpl_text : ∀ (ks : List Nat), (∀ k ∈ ks, k < 10) → ∀ rest, tpl (tText ks ++ rest) = (tpl rest).shift (tText ks).length
  | [], _, rest => (TpO.shift_zero _).symm
  | k :: ks, h, rest => by
    have e : tText (k :: ks) = tItem k ++ tText ks := by simp [tText]
    rw [e, List.append_assoc, tpl_item k (h k (.head _)), tpl_text ks (fun j hj => h j (.tail _ hj)) rest, TpO.shift_shift, List.length_append]
theorem tpl_dollar : tpl [36, 123] = .fine 2 true := by kernel_rfl
theorem tpl_quote : tpl [96] = .fine 1 false := by kernel_rfl
theorem tpl_end : tpl [] = .bad 0 505 := by kernel_rfl
/-- the five texts. -/
def tA (S : ByteArray) : ByteArray := ⟨#[125]⟩ ++ S ++ ⟨#[36, 123]⟩
def tB (S : ByteArray) : ByteArray := ⟨#[125]⟩ ++ S ++ ⟨#[96]⟩
def tC (S : ByteArray) : ByteArray := ⟨#[120, 32, 96]⟩ ++ S
def tD (S : ByteArray) : ByteArray := ⟨#[96]⟩ ++ S ++ ⟨#[96]⟩
def tE (S : ByteArray) : ByteArray := ⟨#[96]⟩ ++ S ++ ⟨#[36, 123]⟩
theorem ba3 (a : UInt8) (S X : ByteArray) : (⟨#[a]⟩ ++ S ++ X : ByteArray).data.toList = a :: (S.data.toList ++ X.data.toList) := by simp [ByteArray.data_append]
theorem nxt3 {S : ByteArray} {rest : List UInt8} (h : S.data.toList = 125 :: rest) : nxt S 0 3 = match tpTk 10 9 (tpl rest) with
    | .fine kind n => .fine kind 0 n false []
    | .bad off code => .bad ((0 + off : Nat) : Int) code := by
  rw [nxt_ok (by rw [List.drop_zero, h]; rintro (h | h | ⟨_, h⟩); omega; omega; exact h rfl), if_pos (.inl rfl)]
  simp only [List.drop_zero]
  have : tokT 3 S.data.toList = tpTk 10 9 (tpl rest) := by
    unfold tokT
    rw [if_pos rfl, h]
    rfl
  rw [this]
  cases tpTk 10 9 (tpl rest) <;> rfl
theorem nxt_A {S : ByteArray} {ks : List Nat} (hks : ∀ k ∈ ks, k < 10) (hS : S.data.toList = tText ks) : nxt (tA S) 0 3 = .fine 10 0 (tA S).size false [] := by
  have hl := ba3 125 S ⟨#[36, 123]⟩
  have hsz : (tA S).size = S.data.toList.length + 3 := by unfold tA; rw [← ofl, hl]; simp
  rw [nxt3 (S := tA S) hl, hS, tpl_text ks hks, show (⟨#[36, 123]⟩ : ByteArray).data.toList = [36, 123] from rfl, tpl_dollar, hsz, hS]
  show NxO.fine 10 0 (1 + ((tText ks).length + 2)) false [] = _
  congr 1
  omega
theorem nxt_B {S : ByteArray} {ks : List Nat} (hks : ∀ k ∈ ks, k < 10) (hS : S.data.toList = tText ks) : nxt (tB S) 0 3 = .fine 9 0 (tB S).size false [] := by
  have hl := ba3 125 S ⟨#[96]⟩
  have hsz : (tB S).size = S.data.toList.length + 2 := by unfold tB; rw [← ofl, hl]; simp
  rw [nxt3 (S := tB S) hl, hS, tpl_text ks hks, show (⟨#[96]⟩ : ByteArray).data.toList = [96] from rfl, tpl_quote, hsz, hS]
  show NxO.fine 9 0 (1 + ((tText ks).length + 1)) false [] = _
  congr 1
  omega
theorem plain_tpl (goal : Int) (rest : List UInt8) : plainT goal (96 :: rest) = tpTk 8 7 (tpl rest) := by
  unfold plainT
  rw [if_neg (by simp), if_pos (show Lib.hasPrefix (96 :: rest) [96] = true from rfl)]
  rfl
theorem nxt_C {S : ByteArray} {ks : List Nat} (hks : ∀ k ∈ ks, k < 10) (hS : S.data.toList = tText ks) : nxt (tC S) 1 1 = .bad 2 505 := by
  have hl : (tC S).data.toList = 120 :: 32 :: 96 :: S.data.toList := by unfold tC; simp [ByteArray.data_append]
  have hsz : (tC S).size = S.data.toList.length + 3 := by rw [← ofl, hl]; simp
  have h1 : btw (tC S) 1 false = btw (tC S) 2 false := by
    rw [btw_step _ 1 _ (by omega), hl]
    simp only [List.drop_succ_cons, List.drop_zero]
    have hg : isGap (32 :: 96 :: S.data.toList) = true := by unfold isGap; rw [nx_ascii 32 _ (by decide)]; rfl
    rw [if_pos hg, nx_ascii 32 _ (by decide)]
    rfl
  have h2 : btw (tC S) 2 false = .fine 2 false [] := by
    refine btw_stay (by omega) false ?_ ?_
    · rw [hl]; exact low_gap 96 _ (by decide) (by decide)
    · rw [hl]
      show cmKind 2 (96 :: S.data.toList) = 0
      unfold cmKind
      rw [pre_head (by decide), pre_head (by decide), pre_head (by decide)]
      rfl
  have ht : tokT 1 ((tC S).data.toList.drop 2) = .bad 0 505 := by
    rw [hl]
    show tokT 1 (96 :: S.data.toList) = _
    unfold tokT
    rw [if_neg (by omega), if_neg (by omega), if_neg (by omega), plain_tpl, hS]
    have := tpl_text ks hks []
    rw [List.append_nil] at this
    rw [this, tpl_end]
    rfl
  rw [nxt_ok (by omega), if_neg (by omega), h1, h2]
  simp only [ht]
  rfl
theorem only_D {S : ByteArray} {ks : List Nat} (hks : ∀ k ∈ ks, k < 10) (hS : S.data.toList = tText ks) : onlyB (tD S) 1 7 = true := by
  have hl := ba3 96 S ⟨#[96]⟩
  have hsz : (tD S).size = S.data.toList.length + 2 := by unfold tD; rw [← ofl, hl]; simp
  refine only_of (tD S) 1 7 (.inl rfl) (by unfold tD; rw [hl]; exact low_gap 96 _ (by decide) (by decide)) (by unfold tD; rw [hl]; exact low_kind 96 _ (by decide) (by decide)) ?_
  rw [show (tD S).data.toList = _ from hl, hsz]
  unfold tokT
  rw [if_neg (by omega), if_neg (by omega), if_neg (by omega), plain_tpl, hS, tpl_text ks hks, show (⟨#[96]⟩ : ByteArray).data.toList = [96] from rfl, tpl_quote]
  show TkO.fine 7 (1 + ((tText ks).length + 1)) = _
  congr 1
  omega
theorem only_E {S : ByteArray} {ks : List Nat} (hks : ∀ k ∈ ks, k < 10) (hS : S.data.toList = tText ks) : onlyB (tE S) 2 8 = true := by
  have hl := ba3 96 S ⟨#[36, 123]⟩
  have hsz : (tE S).size = S.data.toList.length + 3 := by unfold tE; rw [← ofl, hl]; simp
  refine only_of (tE S) 2 8 (.inr (.inl rfl)) (by unfold tE; rw [hl]; exact low_gap 96 _ (by decide) (by decide)) (by unfold tE; rw [hl]; exact low_kind 96 _ (by decide) (by decide)) ?_
  rw [show (tE S).data.toList = _ from hl, hsz]
  unfold tokT
  rw [if_neg (by omega), if_neg (by omega), if_neg (by omega), plain_tpl, hS, tpl_text ks hks, show (⟨#[36, 123]⟩ : ByteArray).data.toList = [36, 123] from rfl, tpl_dollar]
  show TkO.fine 8 (1 + ((tText ks).length + 2)) = _
  congr 1
  omega
/-- a row of ints, as an argument. -/
def IntsArg (w : World) (ao : Option Addr) (len : Nat) : Prop := ∀ j, j < len → ∃ b off, ao = some ⟨b, off, none⟩ ∧ b < w.heap.size ∧ ∃ z : Int, w.cell? ⟨b, off + j, none⟩ = some (.int .i64 z)
theorem below_alloc2' {a w : World} (h : Below a.heap.size a w) (o : Obj) : Below a.heap.size a (w.alloc o) := Below.alloc h h.size o
def TpRel2 (w wr : World) (k : Nat) (s : Value) : Prop :=
  ∃ (ks : List Nat) (S : ByteArray), k = ks.length ∧ s = .string S ∧ S.data.toList = tText ks ∧ (∀ k ∈ ks, k < 10) ∧ S.size ≤ 3 * k ∧ Below w.heap.size w wr
theorem tp_step {w wr' : World} {k : Nat} {ks : List Nat} {S : ByteArray} (hS : S.data.toList = tText ks) (hks : ∀ k ∈ ks, k < 10) (hSs : S.size ≤ 3 * k) (hk : k = ks.length) (j : Nat) (hj : j < 10) (item : ByteArray) (hi : item.data.toList = tItem j) (h3 : item.size ≤ 3) (hb : Below w.heap.size w wr') :
    TpRel2 w wr' (k + 1) (.string (S ++ item)) := by
  refine ⟨ks ++ [j], _, by simp [hk], rfl, ?_, ?_, ?_, hb⟩
  · rw [tText_snoc, ← hS, ← hi]
    simp [ByteArray.data_append]
  · intro x hx
    rcases List.mem_append.1 hx with h | h
    · exact hks x h
    · simp at h; omega
  · rw [ByteArray.size_append]
    omega
theorem next_tok (S : ByteArray) (goal kind : Int) (W : World) (hs : S.size ≤ 16777216) (h : Lx W) (hO : nxt S 0 goal = .fine kind 0 S.size false []) (z : Int) (hz : z = S.size) :
    Calls Tryd.prog 14 #[.string S, .int .i64 0, .int .i64 goal] W fun e w' => (∃ v, e = .returned (.tuple #[.agg #[.int .i64 kind, .string S, .int .i64 0, .int .i64 z, .bool false], v, .int .i64 0, .int .i64 0])) ∧ Below W.heap.size W w' := by
  have hN := Next_any S 0 goal W hs (Nat.zero_le _) h 0 rfl
  rw [hO] at hN
  refine hN.mono fun e w' => ?_
  rintro ⟨v, rfl, _, hb⟩
  have e1 : S.extract 0 (0 + S.size) = S := by rw [Nat.zero_add]; exact ByteArray.extract_zero_size
  refine ⟨⟨v, ?_⟩, hb⟩
  simp only [Tk.val, Tk.cells]
  rw [e1, Nat.zero_add, hz]
  rfl
set_option maxRecDepth 20000 in
set_option maxHeartbeats 8000000 in
theorem templates_any (ao : Option Addr) (len cap : Nat) (w : World) (hc : IntsArg w ao len) (hl : len ≤ 33554432) (hX : Lx w) :
    Calls Tryd.prog 8 #[.slice ao len cap] w fun e w' => e = .returned (.bool true) ∧ Below w.heap.size w w' := by
  have HC := Lib.hid hc
  have HA := Lib.hid (lawake_any w hX)
  have HX := Lib.hid hX
  clear hc hX
  go_enter Tryd.func8, Tryd.ntmps8
  go_wp2_with (go_at_call 13; refine HA.out.mono ?_; rintro e w1 ⟨rfl, hb1⟩)
  go_loopw [3, 4] (fun s i wr => ∃ k : Nat, k ≤ len ∧ k ≤ 20 ∧ i = .int .i64 k ∧ TpRel2 w wr k s) (fun _ i _ => 20 - (intOf i).toNat)
  case atStart => exact ⟨0, Nat.zero_le _, by omega, rfl, [], _, rfl, rfl, rfl, (fun _ h => (by cases h)), Nat.le_refl 0, hb1⟩
  case round =>
    clear hb1
    obtain ⟨k, hk, hk20, rfl, ks, S, hkl, rfl, hS, hks, hSs, hbel⟩ := hrel
    have HS := Lib.hid hS
    have HK := Lib.hid hkl
    have HKS := Lib.hid hks
    clear hS hkl hks
    by_cases hlt : k < len ∧ k < 20
    · obtain ⟨hlt, hlt20⟩ := hlt
      obtain ⟨b, off, rfl, hb, z, hz⟩ := HC.out k hlt
      rw [← hbel.cell (p := ⟨b, off + k, none⟩) hb] at hz
      have hz2 := fun o => ((Below.alloc (Below.refl _ wr) (Nat.le_refl _) o).cell (p := ⟨b, off + k, none⟩) (Nat.lt_of_lt_of_le hb hbel.size)).trans hz
      go_upto_region 7 with fail
      have hr0 : 0 ≤ (IntKind.u64.wrap z).tmod 10 ∧ (IntKind.u64.wrap z).tmod 10 < 10 := by
        have e : IntKind.u64.wrap z = z % 18446744073709551616 := rfl
        rw [e, Int.tmod_eq_emod_of_nonneg (by omega)]
        omega
      have h10 : ∀ r : Int, 0 ≤ r ∧ r < 10 → r = 0 ∨ r = 1 ∨ r = 2 ∨ r = 3 ∨ r = 4 ∨ r = 5 ∨ r = 6 ∨ r = 7 ∨ r = 8 ∨ r = 9 := by omega
      rcases h10 _ hr0 with hm | hm | hm | hm | hm | hm | hm | hm | hm | hm
      · clear hr0 h10 HC
        go_wp2_with fail
        go_roundw
        case rel => exact ⟨k + 1, hlt, by omega, by congr, tp_step HS.out HKS.out hSs HK.out 0 (by decide) _ rfl (by decide) (below_alloc2' hbel _)⟩
        case measure => simp [intOf]; omega
      · clear hr0 h10 HC
        go_wp2_with fail
        go_roundw
        case rel => exact ⟨k + 1, hlt, by omega, by congr, tp_step HS.out HKS.out hSs HK.out 1 (by decide) _ rfl (by decide) (below_alloc2' hbel _)⟩
        case measure => simp [intOf]; omega
      · clear hr0 h10 HC
        go_wp2_with fail
        go_roundw
        case rel => exact ⟨k + 1, hlt, by omega, by congr, tp_step HS.out HKS.out hSs HK.out 2 (by decide) _ rfl (by decide) (below_alloc2' hbel _)⟩
        case measure => simp [intOf]; omega
      · clear hr0 h10 HC
        go_wp2_with fail
        go_roundw
        case rel => exact ⟨k + 1, hlt, by omega, by congr, tp_step HS.out HKS.out hSs HK.out 3 (by decide) _ rfl (by decide) (below_alloc2' hbel _)⟩
        case measure => simp [intOf]; omega
      · clear hr0 h10 HC
        go_wp2_with fail
        go_roundw
        case rel => exact ⟨k + 1, hlt, by omega, by congr, tp_step HS.out HKS.out hSs HK.out 4 (by decide) _ rfl (by decide) (below_alloc2' hbel _)⟩
        case measure => simp [intOf]; omega
      · clear hr0 h10 HC
        go_wp2_with fail
        go_roundw
        case rel => exact ⟨k + 1, hlt, by omega, by congr, tp_step HS.out HKS.out hSs HK.out 5 (by decide) _ rfl (by decide) (below_alloc2' hbel _)⟩
        case measure => simp [intOf]; omega
      · clear hr0 h10 HC
        go_wp2_with fail
        go_roundw
        case rel => exact ⟨k + 1, hlt, by omega, by congr, tp_step HS.out HKS.out hSs HK.out 6 (by decide) _ rfl (by decide) (below_alloc2' hbel _)⟩
        case measure => simp [intOf]; omega
      · clear hr0 h10 HC
        go_wp2_with fail
        go_roundw
        case rel => exact ⟨k + 1, hlt, by omega, by congr, tp_step HS.out HKS.out hSs HK.out 7 (by decide) _ rfl (by decide) (below_alloc2' hbel _)⟩
        case measure => simp [intOf]; omega
      · clear hr0 h10 HC
        go_wp2_with fail
        go_roundw
        case rel => exact ⟨k + 1, hlt, by omega, by congr, tp_step HS.out HKS.out hSs HK.out 8 (by decide) _ rfl (by decide) (below_alloc2' hbel _)⟩
        case measure => simp [intOf]; omega
      · clear hr0 h10 HC
        go_wp2_with fail
        go_roundw
        case rel => exact ⟨k + 1, hlt, by omega, by congr, tp_step HS.out HKS.out hSs HK.out 9 (by decide) _ rfl (by decide) (below_alloc2' hbel _)⟩
        case measure => simp [intOf]; omega
    · have hend : k = len ∨ (k = 20 ∧ 20 < len) := by omega
      rcases hend with rfl | ⟨rfl, hl20⟩
      · have hS2 : S.size ≤ 60 := by omega
        have hA1 := fun W h => next_tok (tA S) 3 10 W (by unfold tA; simp only [ByteArray.size_append]; show 1 + S.size + 2 ≤ _; omega) h (nxt_A HKS.out HS.out) (1 + (S.size : Int) + 2) (by unfold tA; simp only [ByteArray.size_append]; show _ = ((1 + S.size + 2 : Nat) : Int); omega)
        have hB1 := fun W h => next_tok (tB S) 3 9 W (by unfold tB; simp only [ByteArray.size_append]; show 1 + S.size + 1 ≤ _; omega) h (nxt_B HKS.out HS.out) (1 + (S.size : Int) + 1) (by unfold tB; simp only [ByteArray.size_append]; show _ = ((1 + S.size + 1 : Nat) : Int); omega)
        have hC1 := fun W h => Next_any (tC S) 1 1 W (by unfold tC; simp only [ByteArray.size_append]; show 3 + S.size ≤ _; omega) (by unfold tC; simp only [ByteArray.size_append]; show 1 ≤ 3 + S.size; omega) h 1 rfl
        rw [nxt_C HKS.out HS.out] at hC1
        simp only [NxPost, Tk.val, Tk.cells, Tk.zero] at hC1
        have hD1 := fun W h => only_any (tD S) 1 7 W (by unfold tD; simp only [ByteArray.size_append]; show 1 + S.size + 1 ≤ _; omega) h
        rw [only_D HKS.out HS.out] at hD1
        have hE1 := fun W h => only_any (tE S) 2 8 W (by unfold tE; simp only [ByteArray.size_append]; show 1 + S.size + 2 ≤ _; omega) h
        rw [only_E HKS.out HS.out] at hE1
        unfold tA at hA1
        unfold tB at hB1
        unfold tC at hC1
        unfold tD at hD1
        unfold tE at hE1
        have HA1 := Lib.hid hA1
        have HB1 := Lib.hid hB1
        have HC1 := Lib.hid hC1
        have HD1 := Lib.hid hD1
        have HE1 := Lib.hid hE1
        have hb := hbel
        clear hA1 hB1 hC1 hD1 hE1 HC HS HK HKS hbel
        go_upto_region 9 with (go_at_call 14; refine (HA1.out _ (HX.out.bel hb)).mono ?_; rintro e w5 ⟨⟨v5, rfl⟩, hb5⟩)
        have hk5 : TkAt (w5.alloc (.cells #[.int .i64 10, .string (⟨#[125]⟩ ++ S ++ ⟨#[36, 123]⟩), .int .i64 0, .int .i64 (1 + (S.size : Int) + 2), .bool false] 24)) w5.heap.size ⟨10, ⟨#[125]⟩ ++ S ++ ⟨#[36, 123]⟩, 0, 1 + (S.size : Int) + 2, false⟩ := heap_alloc_new _ _
        replace hb := (bel_next hb hb5).alloc (bel_next hb hb5).size (.cells #[.int .i64 10, .string (⟨#[125]⟩ ++ S ++ ⟨#[36, 123]⟩), .int .i64 0, .int .i64 (1 + (S.size : Int) + 2), .bool false] 24)
        generalize World.alloc w5 _ = w6 at *
        generalize w5.heap.size = t5 at *
        have HK5 := Lib.hid hk5
        clear hk5 hb5
        go_upto_region 10 with (go_at_call 14; refine (HB1.out _ (HX.out.bel hb)).mono ?_; rintro e w7 ⟨⟨v7, rfl⟩, hb7⟩)
        have hk9 : TkAt (w7.alloc (.cells #[.int .i64 9, .string (⟨#[125]⟩ ++ S ++ ⟨#[96]⟩), .int .i64 0, .int .i64 (1 + (S.size : Int) + 1), .bool false] 24)) w7.heap.size ⟨9, ⟨#[125]⟩ ++ S ++ ⟨#[96]⟩, 0, 1 + (S.size : Int) + 1, false⟩ := heap_alloc_new _ _
        have hk5 := (HK5.out.bel hb7).bel (Below.alloc (Below.refl _ w7) (Nat.le_refl _) (.cells #[.int .i64 9, .string (⟨#[125]⟩ ++ S ++ ⟨#[96]⟩), .int .i64 0, .int .i64 (1 + (S.size : Int) + 1), .bool false] 24))
        replace hb := (bel_next hb hb7).alloc (bel_next hb hb7).size (.cells #[.int .i64 9, .string (⟨#[125]⟩ ++ S ++ ⟨#[96]⟩), .int .i64 0, .int .i64 (1 + (S.size : Int) + 1), .bool false] 24)
        generalize World.alloc w7 _ = w8 at *
        generalize w7.heap.size = t7 at *
        clear HK5
        have HK5 := Lib.hid hk5
        have HK9 := Lib.hid hk9
        clear hk5 hk9 hb7
        go_upto_region 11 with (go_at_call 14; refine (HC1.out _ (HX.out.bel hb)).mono ?_; rintro e w9 ⟨rfl, hb9⟩)
        have hk5 := (HK5.out.bel hb9).bel (Below.alloc (Below.refl _ w9) (Nat.le_refl _) (.cells #[.int .i64 0, .string ⟨#[]⟩, .int .i64 0, .int .i64 0, .bool false] 24))
        have hk9 := (HK9.out.bel hb9).bel (Below.alloc (Below.refl _ w9) (Nat.le_refl _) (.cells #[.int .i64 0, .string ⟨#[]⟩, .int .i64 0, .int .i64 0, .bool false] 24))
        replace hb := (bel_next hb hb9).alloc (bel_next hb hb9).size (.cells #[.int .i64 0, .string ⟨#[]⟩, .int .i64 0, .int .i64 0, .bool false] 24)
        generalize World.alloc w9 _ = w10 at *
        clear HK5 HK9 hb9
        have HK5 := Lib.hid hk5
        have HK9 := Lib.hid hk9
        clear hk5 hk9
        obtain ⟨d0, d1, d2, d3, d4, g0, g1, g2, g3, g4⟩ := TkAt.facts HK5.out
        obtain ⟨x0, x1, x2, x3, x4, n0, n1, n2, n3, n4⟩ := TkAt.facts HK9.out
        go_wp2_with (first | (go_at_call 17; with_reducible refine (HD1.out _ (HX.out.bel hb)).mono ?_; rintro e w20 ⟨rfl, hb9⟩; replace hb := bel_next hb hb9; clear d0 d1 d2 d3 d4 g0 g1 g2 g3 g4 x0 x1 x2 x3 x4 n0 n1 n2 n3 n4; replace HK5 := Lib.hid (HK5.out.bel hb9); replace HK9 := Lib.hid (HK9.out.bel hb9); clear hb9; obtain ⟨d0, d1, d2, d3, d4, g0, g1, g2, g3, g4⟩ := TkAt.facts HK5.out; obtain ⟨x0, x1, x2, x3, x4, n0, n1, n2, n3, n4⟩ := TkAt.facts HK9.out) | (go_at_call 17; with_reducible refine (HE1.out _ (HX.out.bel hb)).mono ?_; rintro e w20 ⟨rfl, hb9⟩; replace hb := bel_next hb hb9; clear d0 d1 d2 d3 d4 g0 g1 g2 g3 g4 x0 x1 x2 x3 x4 n0 n1 n2 n3 n4; replace HK5 := Lib.hid (HK5.out.bel hb9); replace HK9 := Lib.hid (HK9.out.bel hb9); clear hb9; obtain ⟨d0, d1, d2, d3, d4, g0, g1, g2, g3, g4⟩ := TkAt.facts HK5.out; obtain ⟨x0, x1, x2, x3, x4, n0, n1, n2, n3, n4⟩ := TkAt.facts HK9.out) | (go_at_call 15; refine (lnum_any _ _).mono ?_; rintro e w' ⟨rfl, rfl⟩))
        go_ret
        exact ⟨rfl, hb⟩
        
      · have hS2 : S.size ≤ 60 := by omega
        have hA1 := fun W h => next_tok (tA S) 3 10 W (by unfold tA; simp only [ByteArray.size_append]; show 1 + S.size + 2 ≤ _; omega) h (nxt_A HKS.out HS.out) (1 + (S.size : Int) + 2) (by unfold tA; simp only [ByteArray.size_append]; show _ = ((1 + S.size + 2 : Nat) : Int); omega)
        have hB1 := fun W h => next_tok (tB S) 3 9 W (by unfold tB; simp only [ByteArray.size_append]; show 1 + S.size + 1 ≤ _; omega) h (nxt_B HKS.out HS.out) (1 + (S.size : Int) + 1) (by unfold tB; simp only [ByteArray.size_append]; show _ = ((1 + S.size + 1 : Nat) : Int); omega)
        have hC1 := fun W h => Next_any (tC S) 1 1 W (by unfold tC; simp only [ByteArray.size_append]; show 3 + S.size ≤ _; omega) (by unfold tC; simp only [ByteArray.size_append]; show 1 ≤ 3 + S.size; omega) h 1 rfl
        rw [nxt_C HKS.out HS.out] at hC1
        simp only [NxPost, Tk.val, Tk.cells, Tk.zero] at hC1
        have hD1 := fun W h => only_any (tD S) 1 7 W (by unfold tD; simp only [ByteArray.size_append]; show 1 + S.size + 1 ≤ _; omega) h
        rw [only_D HKS.out HS.out] at hD1
        have hE1 := fun W h => only_any (tE S) 2 8 W (by unfold tE; simp only [ByteArray.size_append]; show 1 + S.size + 2 ≤ _; omega) h
        rw [only_E HKS.out HS.out] at hE1
        unfold tA at hA1
        unfold tB at hB1
        unfold tC at hC1
        unfold tD at hD1
        unfold tE at hE1
        have HA1 := Lib.hid hA1
        have HB1 := Lib.hid hB1
        have HC1 := Lib.hid hC1
        have HD1 := Lib.hid hD1
        have HE1 := Lib.hid hE1
        have hb := hbel
        clear hA1 hB1 hC1 hD1 hE1 HC HS HK HKS hbel
        go_upto_region 9 with (go_at_call 14; refine (HA1.out _ (HX.out.bel hb)).mono ?_; rintro e w5 ⟨⟨v5, rfl⟩, hb5⟩)
        have hk5 : TkAt (w5.alloc (.cells #[.int .i64 10, .string (⟨#[125]⟩ ++ S ++ ⟨#[36, 123]⟩), .int .i64 0, .int .i64 (1 + (S.size : Int) + 2), .bool false] 24)) w5.heap.size ⟨10, ⟨#[125]⟩ ++ S ++ ⟨#[36, 123]⟩, 0, 1 + (S.size : Int) + 2, false⟩ := heap_alloc_new _ _
        replace hb := (bel_next hb hb5).alloc (bel_next hb hb5).size (.cells #[.int .i64 10, .string (⟨#[125]⟩ ++ S ++ ⟨#[36, 123]⟩), .int .i64 0, .int .i64 (1 + (S.size : Int) + 2), .bool false] 24)
        generalize World.alloc w5 _ = w6 at *
        generalize w5.heap.size = t5 at *
        have HK5 := Lib.hid hk5
        clear hk5 hb5
        go_upto_region 10 with (go_at_call 14; refine (HB1.out _ (HX.out.bel hb)).mono ?_; rintro e w7 ⟨⟨v7, rfl⟩, hb7⟩)
        have hk9 : TkAt (w7.alloc (.cells #[.int .i64 9, .string (⟨#[125]⟩ ++ S ++ ⟨#[96]⟩), .int .i64 0, .int .i64 (1 + (S.size : Int) + 1), .bool false] 24)) w7.heap.size ⟨9, ⟨#[125]⟩ ++ S ++ ⟨#[96]⟩, 0, 1 + (S.size : Int) + 1, false⟩ := heap_alloc_new _ _
        have hk5 := (HK5.out.bel hb7).bel (Below.alloc (Below.refl _ w7) (Nat.le_refl _) (.cells #[.int .i64 9, .string (⟨#[125]⟩ ++ S ++ ⟨#[96]⟩), .int .i64 0, .int .i64 (1 + (S.size : Int) + 1), .bool false] 24))
        replace hb := (bel_next hb hb7).alloc (bel_next hb hb7).size (.cells #[.int .i64 9, .string (⟨#[125]⟩ ++ S ++ ⟨#[96]⟩), .int .i64 0, .int .i64 (1 + (S.size : Int) + 1), .bool false] 24)
        generalize World.alloc w7 _ = w8 at *
        generalize w7.heap.size = t7 at *
        clear HK5
        have HK5 := Lib.hid hk5
        have HK9 := Lib.hid hk9
        clear hk5 hk9 hb7
        go_upto_region 11 with (go_at_call 14; refine (HC1.out _ (HX.out.bel hb)).mono ?_; rintro e w9 ⟨rfl, hb9⟩)
        have hk5 := (HK5.out.bel hb9).bel (Below.alloc (Below.refl _ w9) (Nat.le_refl _) (.cells #[.int .i64 0, .string ⟨#[]⟩, .int .i64 0, .int .i64 0, .bool false] 24))
        have hk9 := (HK9.out.bel hb9).bel (Below.alloc (Below.refl _ w9) (Nat.le_refl _) (.cells #[.int .i64 0, .string ⟨#[]⟩, .int .i64 0, .int .i64 0, .bool false] 24))
        replace hb := (bel_next hb hb9).alloc (bel_next hb hb9).size (.cells #[.int .i64 0, .string ⟨#[]⟩, .int .i64 0, .int .i64 0, .bool false] 24)
        generalize World.alloc w9 _ = w10 at *
        clear HK5 HK9 hb9
        have HK5 := Lib.hid hk5
        have HK9 := Lib.hid hk9
        clear hk5 hk9
        obtain ⟨d0, d1, d2, d3, d4, g0, g1, g2, g3, g4⟩ := TkAt.facts HK5.out
        obtain ⟨x0, x1, x2, x3, x4, n0, n1, n2, n3, n4⟩ := TkAt.facts HK9.out
        go_wp2_with (first | (go_at_call 17; with_reducible refine (HD1.out _ (HX.out.bel hb)).mono ?_; rintro e w20 ⟨rfl, hb9⟩; replace hb := bel_next hb hb9; clear d0 d1 d2 d3 d4 g0 g1 g2 g3 g4 x0 x1 x2 x3 x4 n0 n1 n2 n3 n4; replace HK5 := Lib.hid (HK5.out.bel hb9); replace HK9 := Lib.hid (HK9.out.bel hb9); clear hb9; obtain ⟨d0, d1, d2, d3, d4, g0, g1, g2, g3, g4⟩ := TkAt.facts HK5.out; obtain ⟨x0, x1, x2, x3, x4, n0, n1, n2, n3, n4⟩ := TkAt.facts HK9.out) | (go_at_call 17; with_reducible refine (HE1.out _ (HX.out.bel hb)).mono ?_; rintro e w20 ⟨rfl, hb9⟩; replace hb := bel_next hb hb9; clear d0 d1 d2 d3 d4 g0 g1 g2 g3 g4 x0 x1 x2 x3 x4 n0 n1 n2 n3 n4; replace HK5 := Lib.hid (HK5.out.bel hb9); replace HK9 := Lib.hid (HK9.out.bel hb9); clear hb9; obtain ⟨d0, d1, d2, d3, d4, g0, g1, g2, g3, g4⟩ := TkAt.facts HK5.out; obtain ⟨x0, x1, x2, x3, x4, n0, n1, n2, n3, n4⟩ := TkAt.facts HK9.out) | (go_at_call 15; refine (lnum_any _ _).mono ?_; rintro e w' ⟨rfl, rfl⟩))
        go_ret
        exact ⟨rfl, hb⟩
        
end Go.Proofs.YtdkkfbakggbaeaaDoor
