/- JsxNumbers: a character's number stands for it, in either base: the law's own function answers true, whatever the two numbers. -/
import Derived.Test.YtcflmpnkmchdoaaDoorM
import Derived.Test.YtcflmpnkmchdoaaDoorDec
import Derived.Test.YtcflmpnkmchdoaaDoorW
import Derived.Lib.QuoteBits
namespace Go.Proofs.YtcflmpnkmchdoaaDoor
open Go.RowKit

theorem u64_wrap (z : Int) : ∃ x : Nat, x < 1114128 ∧ (IntKind.u64.wrap z).tmod 1114128 = (x : Int) := by
  have e : IntKind.u64.wrap z = z % 18446744073709551616 := rfl
  rw [e, Int.tmod_eq_emod_of_nonneg (by omega)]
  exact ⟨((z % 18446744073709551616) % 1114128).toNat, by omega, by omega⟩

theorem below_alloc' {a w : World} (h : Below a.heap.size a w) (o : Obj) : Below a.heap.size a (w.alloc o) := Below.alloc h h.size o
def emptyN : Value → Nat
  | .string s => if s.size = 0 then 1 else 0
  | _ => 0
theorem and7 (q : Int) : ∃ z : Nat, z ≤ 7 ∧ bits BinOp.and IntKind.i64 q 7 = (z : Int) := by
  refine ⟨(BitVec.ofInt 64 q &&& BitVec.ofInt 64 7).toNat, ?_, ?_⟩
  · rw [BitVec.toNat_and]
    exact Nat.and_le_right
  · show IntKind.i64.wrap ((BitVec.ofInt 64 q &&& BitVec.ofInt 64 7).toNat : Int) = _
    refine Lib.wrap_i64_small _ ?_
    rw [BitVec.toNat_and]
    exact Nat.lt_of_le_of_lt Nat.and_le_right (by decide)
/-- at most eight noughts. -/
abbrev noughts (z : Nat) : ByteArray := (ByteArray.mk #[48, 48, 48, 48, 48, 48, 48, 48, 48]).extract 0 z
theorem noughts_list {z : Nat} (h : z ≤ 7) : (noughts z).data.toList = List.replicate z 48 := by
  have g : ∀ k : Fin 8, (noughts k.val).data.toList = List.replicate k.val 48 := by decide +kernel
  exact g ⟨z, by omega⟩
theorem noughts_size {z : Nat} (h : z ≤ 7) : (noughts z).size ≤ 7 := by
  have g : ∀ k : Fin 8, (noughts k.val).size ≤ 7 := by decide +kernel
  exact g ⟨z, by omega⟩
theorem dec_calls {x z : Nat} {l : List UInt8} (h : DigT 10 x l) (hz : z ≤ 7) (hx : x < 1114128) (W : World) : Calls Tryd.prog 9 #[.string (⟨#[98, 38, 35]⟩ ++ noughts z ++ ⟨l.toArray⟩ ++ ⟨#[59]⟩)] W fun e w' => e = entsV (numAns x) ∧ Below W.heap.size W w' := by
  have e : ((ByteArray.mk #[98, 38, 35]) ++ noughts z ++ ⟨l.toArray⟩ ++ ⟨#[59]⟩).data.toList = [98, 38, 35] ++ List.replicate z 48 ++ l ++ [59] := by
    rw [ByteArray.data_append, ByteArray.data_append, ByteArray.data_append, Array.toList_append, Array.toList_append, Array.toList_append, noughts_list hz]
  have hs : ((ByteArray.mk #[98, 38, 35]) ++ noughts z ++ ⟨l.toArray⟩ ++ ⟨#[59]⟩).size ≤ 16777216 := by
    have h1 := h.len
    have h2 : ([98, 38, 35] ++ List.replicate z 48 ++ l ++ [59]).length = l.length + z + 4 := by simp; omega
    rw [← ofl, e, h2]
    omega
  have := entities_any _ W hs
  rw [e, ents_dec h z] at this
  exact this
theorem hex_calls {x z : Nat} {H : ByteArray} (h : DigT 16 x H.data.toList) (hz : z ≤ 7) (hx : x < 1114128) (W : World) : Calls Tryd.prog 9 #[.string (⟨#[98, 38, 35, 120]⟩ ++ noughts z ++ H ++ ⟨#[59]⟩)] W fun e w' => e = entsV (numAns x) ∧ Below W.heap.size W w' := by
  have e : ((ByteArray.mk #[98, 38, 35, 120]) ++ noughts z ++ H ++ ⟨#[59]⟩).data.toList = [98, 38, 35, 120] ++ List.replicate z 48 ++ H.data.toList ++ [59] := by
    rw [ByteArray.data_append, ByteArray.data_append, ByteArray.data_append, Array.toList_append, Array.toList_append, Array.toList_append, noughts_list hz]
  have hs : ((ByteArray.mk #[98, 38, 35, 120]) ++ noughts z ++ H ++ ⟨#[59]⟩).size ≤ 16777216 := by
    have h1 := h.len
    have h2 : ([98, 38, 35, 120] ++ List.replicate z 48 ++ H.data.toList ++ [59]).length = H.data.toList.length + z + 5 := by simp; omega
    rw [← ofl, e, h2]
    omega
  have := entities_any _ W hs
  rw [e, ents_hex h z] at this
  exact this
theorem ans_bad {x : Nat} (h : 1114111 < x ∨ (55296 ≤ x ∧ x ≤ 57343)) : entsV (numAns x) = .returned (.tuple #[.string ⟨#[]⟩, .int .i64 1, .int .i64 700]) := by
  unfold numAns
  rw [if_neg (by omega)]
  rfl
theorem ans_good {x : Nat} (h : x < 55296 ∨ (57343 < x ∧ x ≤ 1114111)) : entsV (numAns x) = .returned (.tuple #[.string (⟨#[98]⟩ ++ Utf8.encode (x : Int)), .int .i64 0, .int .i64 0]) := by
  unfold numAns
  rw [if_pos (by omega)]
  have e : (⟨(98 :: Lib.encodeRune x).toArray⟩ : ByteArray) = ⟨#[98]⟩ ++ Utf8.encode (x : Int) := by
    refine byteArray_ext _ _ ?_
    rw [ByteArray.data_append, Array.toList_append, encode_bytes]
    rfl
  unfold entsV
  rw [← e]
theorem ent_dec_bad {x z : Nat} {l : List UInt8} (h : DigT 10 x l) (hz : z ≤ 7) (hx : x < 1114128) (hg : 1114111 < x ∨ (55296 ≤ x ∧ x ≤ 57343)) (W : World) : Calls Tryd.prog 9 #[.string (⟨#[98, 38, 35]⟩ ++ noughts z ++ ⟨l.toArray⟩ ++ ⟨#[59]⟩)] W fun e w' => e = .returned (.tuple #[.string ⟨#[]⟩, .int .i64 1, .int .i64 700]) ∧ Below W.heap.size W w' := by
  have := dec_calls h hz hx W
  rw [ans_bad hg] at this
  exact this
theorem ent_dec_good {x z : Nat} {l : List UInt8} (h : DigT 10 x l) (hz : z ≤ 7) (hx : x < 1114128) (hg : x < 55296 ∨ (57343 < x ∧ x ≤ 1114111)) (W : World) : Calls Tryd.prog 9 #[.string (⟨#[98, 38, 35]⟩ ++ noughts z ++ ⟨l.toArray⟩ ++ ⟨#[59]⟩)] W fun e w' => e = .returned (.tuple #[.string (⟨#[98]⟩ ++ Utf8.encode (x : Int)), .int .i64 0, .int .i64 0]) ∧ Below W.heap.size W w' := by
  have := dec_calls h hz hx W
  rw [ans_good hg] at this
  exact this
theorem ent_hex_bad {x z : Nat} {H : ByteArray} (h : DigT 16 x H.data.toList) (hz : z ≤ 7) (hx : x < 1114128) (hg : 1114111 < x ∨ (55296 ≤ x ∧ x ≤ 57343)) (W : World) : Calls Tryd.prog 9 #[.string (⟨#[98, 38, 35, 120]⟩ ++ noughts z ++ H ++ ⟨#[59]⟩)] W fun e w' => e = .returned (.tuple #[.string ⟨#[]⟩, .int .i64 1, .int .i64 700]) ∧ Below W.heap.size W w' := by
  have := hex_calls h hz hx W
  rw [ans_bad hg] at this
  exact this
theorem ent_hex_good {x z : Nat} {H : ByteArray} (h : DigT 16 x H.data.toList) (hz : z ≤ 7) (hx : x < 1114128) (hg : x < 55296 ∨ (57343 < x ∧ x ≤ 1114111)) (W : World) : Calls Tryd.prog 9 #[.string (⟨#[98, 38, 35, 120]⟩ ++ noughts z ++ H ++ ⟨#[59]⟩)] W fun e w' => e = .returned (.tuple #[.string (⟨#[98]⟩ ++ Utf8.encode (x : Int)), .int .i64 0, .int .i64 0]) ∧ Below W.heap.size W w' := by
  have := hex_calls h hz hx W
  rw [ans_good hg] at this
  exact this
theorem hex_one (y : Nat) : ((ByteArray.mk #[48, 49, 50, 51, 52, 53, 54, 55, 56, 57, 97, 98, 99, 68, 69, 70]).extract (y % 16) (y % 16 + 1)).data.toList = [hexDigs[y % 16]!] := by
  have h : ∀ k : Fin 16, ((ByteArray.mk #[48, 49, 50, 51, 52, 53, 54, 55, 56, 57, 97, 98, 99, 68, 69, 70]).extract k.val (k.val + 1)).data.toList = [hexDigs[k.val]!] := by decide +kernel
  exact h ⟨y % 16, Nat.mod_lt _ (by decide)⟩
theorem hex_list (y : Nat) (H : ByteArray) : ((ByteArray.mk #[48, 49, 50, 51, 52, 53, 54, 55, 56, 57, 97, 98, 99, 68, 69, 70]).extract (y % 16) (y % 16 + 1) ++ H).data.toList = hexDigs[y % 16]! :: H.data.toList := by
  rw [ByteArray.data_append, Array.toList_append, hex_one]
  rfl
theorem hex_step {x y : Nat} {H : ByteArray} (h : DigL 16 x y H.data.toList) (hy : 0 < y ∨ H.data.toList = []) : DigL 16 x (y / 16) ((ByteArray.mk #[48, 49, 50, 51, 52, 53, 54, 55, 56, 57, 97, 98, 99, 68, 69, 70]).extract (y % 16) (y % 16 + 1) ++ H).data.toList := by
  rw [hex_list]
  obtain ⟨d1, d2, d3⟩ := hex_digit y
  exact digL_cons h (by decide) hy d1 d2 d3
theorem hex_ne (y : Nat) (H : ByteArray) : ((ByteArray.mk #[48, 49, 50, 51, 52, 53, 54, 55, 56, 57, 97, 98, 99, 68, 69, 70]).extract (y % 16) (y % 16 + 1) ++ H).data.toList ≠ [] := by
  rw [hex_list]
  exact List.cons_ne_nil _ _
theorem emptyN_one {H : ByteArray} (h : H.toList = []) : emptyN (.string H) = 1 := by
  unfold emptyN
  have : H.size = 0 := by rw [← ofl, ← Lib.toList_data, h]; rfl
  show (if H.size = 0 then 1 else 0) = 1
  rw [if_pos this]
theorem empty_of {s : ByteArray} (h : s.data.toList ≠ []) : emptyN (.string s) = 0 := by
  unfold emptyN
  have : s.size ≠ 0 := fun e => h (List.length_eq_zero_iff.1 (by rw [ofl]; exact e))
  simp [this]
set_option maxRecDepth 100000 in
set_option maxHeartbeats 1000000 in
theorem jsxNumbers_law (r q : Int) (w : World) : Calls Tryd.prog 6 #[.int .i64 r, .int .i64 q] w fun e w' => e = .returned (.bool true) ∧ Below w.heap.size w w' := by
  obtain ⟨x, hx, hxe⟩ := u64_wrap r
  go_enter Tryd.func6, Tryd.ntmps6
  go_wp2_with (first | (go_at_call 12; refine (awake_any _).mono ?_; rintro e w1 ⟨rfl, hb1⟩))
  go_loop [6, 7] (fun h n => ∃ (y : Nat) (H : ByteArray), y ≤ x ∧ n = .int .i64 y ∧ h = .string H ∧ DigL 16 x y H.data.toList) (fun h n => (intOf n).toNat * 2 + emptyN h)
  case atStart => exact ⟨x, _, Nat.le_refl _, rfl, rfl, digL_nil 16 x⟩
  case round =>
    obtain ⟨y, H, hy, rfl, rfl, hd⟩ := hrel
    have HD := Lib.hid hd
    have hlen : H.size ≤ 2000000 := by have := hd.len; rw [ofl] at this; omega
    clear hd
    by_cases hy0 : 0 < y
    · go_wp2_with fail
      go_round
      case rel => exact ⟨y / 16, _, by omega, by go_num, rfl, hex_step HD.out (.inl hy0)⟩
      case measure => rw [empty_of (hex_ne y H)]; simp [intOf]; omega
    · obtain rfl : y = 0 := by omega
      cases he : H.toList.isEmpty with
      | true =>
        have he' : H.toList = [] := List.isEmpty_iff.1 he
        have HE := Lib.hid he'
        clear he'
        go_wp2_with fail
        go_round
        case rel =>
          exact ⟨0, _, by omega, rfl, rfl, hex_step HD.out (.inr (by rw [← Lib.toList_data]; exact HE.out))⟩
        case measure => rw [empty_of (hex_ne 0 H), emptyN_one HE.out]; simp [intOf]
      | false =>
        obtain ⟨z, hz, hze⟩ := and7 q
        have HT := Lib.hid (digT_of HD.out (by rw [← Lib.toList_data]; intro h; rw [h] at he; cases he))
        clear hy0 HD
        go_upto_region 10 with fail
        have h5 : 1114111 < x ∨ (55296 ≤ x ∧ x ≤ 57343) ∨ x < 55296 ∨ (57343 < x ∧ x ≤ 1114111) := by omega
        rcases h5 with h5 | h5 | h5 | h5
        · skip
          go_upto_region 11 with (first | (go_at_call 19; refine (decimal_any x (by omega) _).mono ?_; rintro e w2 ⟨l, hl, rfl, hb2⟩; have hll : l.length ≤ 2000000 := (by have := hl.len; omega); have HL := Lib.hid hl; clear hl) | (go_at_call 9; refine (ent_dec_bad HL.out hz hx (by omega) _).mono ?_; rintro e w3 ⟨rfl, hb3⟩))
          go_upto_region 12 with (first | (go_at_call 9; refine (ent_hex_bad HT.out hz hx (by omega) _).mono ?_; rintro e w4 ⟨rfl, hb4⟩))
          go_wp2_with (first | (go_at_call 11; refine (num_any _ _).mono ?_; rintro e w' ⟨rfl, rfl⟩))
          go_ret
          exact ⟨rfl, bel_next (bel_next (bel_next hb1 hb2) hb3) hb4⟩
        · obtain ⟨h5, h6⟩ := h5
          go_upto_region 11 with (first | (go_at_call 19; refine (decimal_any x (by omega) _).mono ?_; rintro e w2 ⟨l, hl, rfl, hb2⟩; have hll : l.length ≤ 2000000 := (by have := hl.len; omega); have HL := Lib.hid hl; clear hl) | (go_at_call 9; refine (ent_dec_bad HL.out hz hx (by omega) _).mono ?_; rintro e w3 ⟨rfl, hb3⟩))
          go_upto_region 12 with (first | (go_at_call 9; refine (ent_hex_bad HT.out hz hx (by omega) _).mono ?_; rintro e w4 ⟨rfl, hb4⟩))
          go_wp2_with (first | (go_at_call 11; refine (num_any _ _).mono ?_; rintro e w' ⟨rfl, rfl⟩))
          go_ret
          exact ⟨rfl, bel_next (bel_next (bel_next hb1 hb2) hb3) hb4⟩
        · skip
          go_upto_region 11 with (first | (go_at_call 19; refine (decimal_any x (by omega) _).mono ?_; rintro e w2 ⟨l, hl, rfl, hb2⟩; have hll : l.length ≤ 2000000 := (by have := hl.len; omega); have HL := Lib.hid hl; clear hl) | (go_at_call 9; refine (ent_dec_good HL.out hz hx (by omega) _).mono ?_; rintro e w3 ⟨rfl, hb3⟩))
          go_upto_region 12 with (first | (go_at_call 9; refine (ent_hex_good HT.out hz hx (by omega) _).mono ?_; rintro e w4 ⟨rfl, hb4⟩))
          have hcv := rune_string w4 (x : Int)
          have hes : (Utf8.encode (x : Int)).size ≤ 4 := encode_size_le _
          generalize Utf8.encode (x : Int) = E at *
          go_wp2_with (first | (go_at_call 11; refine (num_any _ _).mono ?_; rintro e w' ⟨rfl, rfl⟩))
          go_ret
          exact ⟨rfl, below_alloc' (bel_next (bel_next (bel_next hb1 hb2) hb3) hb4) _⟩
        · obtain ⟨h5, h6⟩ := h5
          go_upto_region 11 with (first | (go_at_call 19; refine (decimal_any x (by omega) _).mono ?_; rintro e w2 ⟨l, hl, rfl, hb2⟩; have hll : l.length ≤ 2000000 := (by have := hl.len; omega); have HL := Lib.hid hl; clear hl) | (go_at_call 9; refine (ent_dec_good HL.out hz hx (by omega) _).mono ?_; rintro e w3 ⟨rfl, hb3⟩))
          go_upto_region 12 with (first | (go_at_call 9; refine (ent_hex_good HT.out hz hx (by omega) _).mono ?_; rintro e w4 ⟨rfl, hb4⟩))
          have hcv := rune_string w4 (x : Int)
          have hes : (Utf8.encode (x : Int)).size ≤ 4 := encode_size_le _
          generalize Utf8.encode (x : Int) = E at *
          go_wp2_with (first | (go_at_call 11; refine (num_any _ _).mono ?_; rintro e w' ⟨rfl, rfl⟩))
          go_ret
          exact ⟨rfl, below_alloc' (bel_next (bel_next (bel_next hb1 hb2) hb3) hb4) _⟩
end Go.Proofs.YtcflmpnkmchdoaaDoor
