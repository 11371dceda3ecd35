/- Contract of platenlaw5's only: is a text one token of a kind, for a goal? Conditions: the library's tables; at most 2^24 bytes. | LexNumbers: a number is a token by itself just if it is one: plain, and the function. | word.Name: its contract; a name behind which more stands. Conditions: at most 2^24 bytes. | LexNames: a name is a token by itself just if it is a name: plain, and the function. | LexStrings: a text literal is a token by itself just if it is one: plain, and the function. | Small common facts: a row of ints as an argument; Next's contract in a few forms. -/
import Derived.Test.YtdkkfbakggbaeaaDoorLR
import Derived.Test.YtdkkfbakggbaeaaDoorLS
import Derived.Lib.TrimUEq
import Derived.Lib.MapLaws
namespace Go.Proofs.YtdkkfbakggbaeaaDoor
open Go.RowKit

def onlyB (s : ByteArray) (goal kind : Int) : Bool := match nxt s 0 goal with
  | .fine k q n _ cs => decide (k = kind ∧ q = 0 ∧ n = s.size ∧ cs = [])
  | .bad _ _ => false
theorem toList_ne {a c : ByteArray} (h : a.size ≠ c.size) : (a.toList == c.toList) = false := by
  rw [beq_eq_false_iff_ne]
  intro e
  rw [Lib.toList_data, Lib.toList_data] at e
  have := congrArg List.length e
  rw [ofl, ofl] at this
  exact h this
set_option maxRecDepth 20000 in
set_option maxHeartbeats 2000000 in
theorem only_any (s : ByteArray) (goal kind : Int) (w : World) (hs : s.size ≤ 16777216) (hX : Lx w) :
    Calls Tryd.prog 17 #[.string s, .int .i64 goal, .int .i64 kind] w fun e w' => e = .returned (.bool (onlyB s goal kind)) ∧ Below w.heap.size w w' := by
  have hN := Next_any s 0 goal w hs (Nat.zero_le _) hX 0 rfl
  have hin := nxt_in s 0 goal (Nat.zero_le _)
  have hnz := nxt_nz s 0 goal (Nat.zero_le _)
  obtain ⟨B, hB⟩ : ∃ B, onlyB s goal kind = B := ⟨_, rfl⟩
  rw [hB]
  unfold onlyB at hB
  cases hO : nxt s 0 goal with
  | bad place code =>
    rw [hO] at hN hnz hB
    subst hB
    simp only [NxPost, Tk.val, Tk.cells, Tk.zero] at hN
    simp only [NxO.Nz] at hnz
    have bc : (code == 0) = false := by rw [beq_eq_false_iff_ne]; exact hnz
    have HN := Lib.hid hN
    clear hN hin hnz hX hO
    go_enter Tryd.func17, Tryd.ntmps17
    go_upto_region 2 with (go_at_call 14; refine HN.out.mono ?_; rintro e w2 ⟨rfl, hb2⟩)
    have hb := hb2.alloc hb2.size (.cells #[.int .i64 0, .string ⟨#[]⟩, .int .i64 0, .int .i64 0, .bool false] 24)
    generalize World.alloc w2 _ = w3 at *
    go_wp2_with (go_at_call 15; refine (lnum_any _ _).mono ?_; rintro e w' ⟨rfl, rfl⟩)
    go_ret
    exact ⟨rfl, hb⟩
  | fine k q n line cs =>
    rw [hO] at hN hin hB
    simp only at hB
    have HB := Lib.hid hB
    clear hB
    simp only [NxPost, Tk.val, Tk.cells] at hN
    obtain ⟨_, hqn, _, _⟩ := hin
    have HN := Lib.hid hN
    clear hN hnz hX hO
    go_enter Tryd.func17, Tryd.ntmps17
    go_upto_region 2 with (go_at_call 14; refine HN.out.mono ?_; rintro e w2 ⟨v, rfl, hown, hb2⟩)
    obtain ⟨vp, cap, rfl⟩ := hown.form
    have hb := hb2.alloc hb2.size (.cells #[.int .i64 k, .string (s.extract q (q + n)), .int .i64 (q : Int), .int .i64 ((q : Int) + (n : Int)), .bool line] 24)
    have hk : TkAt (w2.alloc (.cells #[.int .i64 k, .string (s.extract q (q + n)), .int .i64 (q : Int), .int .i64 ((q : Int) + (n : Int)), .bool line] 24)) w2.heap.size ⟨k, s.extract q (q + n), q, (q : Int) + (n : Int), line⟩ := heap_alloc_new _ _
    generalize World.alloc w2 _ = w3 at *
    generalize w2.heap.size = g at *
    clear hown hb2 HN
    obtain ⟨d0, d1, d2, d3, d4, g0, g1, g2, g3, g4⟩ := TkAt.facts hk
    by_cases hkk : k = kind
    · have bk : (k == kind) = true := by rw [beq_iff_eq]; exact hkk
      by_cases hq : q = 0 ∧ n = s.size
      · obtain ⟨rfl, rfl⟩ := hq
        have hx : s.extract 0 (0 + s.size) = s := by rw [Nat.zero_add]; exact ByteArray.extract_zero_size
        rw [hx] at d1
        by_cases hc : cs.length = 0
        · have HV := Lib.hid (show B = true by rw [← HB.out]; exact decide_eq_true ⟨hkk, rfl, rfl, List.length_eq_zero_iff.1 hc⟩)
          clear hkk hx HB
          go_wp2_with (go_at_call 15; refine (lnum_any _ _).mono ?_; rintro e w' ⟨rfl, rfl⟩)
          go_ret
          exact ⟨by rw [HV.out]; rfl, hb⟩
        · have HV := Lib.hid (show B = false by rw [← HB.out]; exact decide_eq_false (fun h => hc (by rw [h.2.2.2]; rfl)))
          clear HB
          have bc : ((cs.length : Int) == 0) = false := by rw [beq_eq_false_iff_ne]; omega
          clear hkk hx hc
          go_wp2_with (go_at_call 15; refine (lnum_any _ _).mono ?_; rintro e w' ⟨rfl, rfl⟩)
          go_ret
          exact ⟨by rw [HV.out]; rfl, hb⟩
      · have HV := Lib.hid (show B = false by rw [← HB.out]; exact decide_eq_false (fun h => hq ⟨h.2.1, h.2.2.1⟩))
        have hne : ((s.extract q (q + n)).toList == s.toList) = false := toList_ne (by rw [ByteArray.size_extract]; omega)
        clear hkk hq
        go_wp2_with (go_at_call 15; refine (lnum_any _ _).mono ?_; rintro e w' ⟨rfl, rfl⟩)
        go_ret
        refine ⟨?_, hb⟩
        rw [HV.out]
        rfl
    · have bk : (k == kind) = false := by rw [beq_eq_false_iff_ne]; exact hkk
      have HV := Lib.hid (show B = false by rw [← HB.out]; exact decide_eq_false (fun h => hkk h.1))
      clear hkk
      go_wp2_with (go_at_call 15; refine (lnum_any _ _).mono ?_; rintro e w' ⟨rfl, rfl⟩)
      go_ret
      refine ⟨?_, hb⟩
      rw [HV.out]
      rfl
end Go.Proofs.YtdkkfbakggbaeaaDoor
namespace Go.Proofs.YtdkkfbakggbaeaaDoor
open Go.RowKit

theorem aft_fine_inv {l : List UInt8} {kd k : Int} {n m : Nat} (h : aft l kd n = .fine k m) : k = kd ∧ m = n := by
  unfold aft at h
  split at h
  · cases h
  · cases h; exact ⟨rfl, rfl⟩
theorem tpTk_kind {o : TpO} {kh kt k : Int} {n : Nat} (h : tpTk kh kt o = .fine k n) : k = kh ∨ k = kt := by
  cases o with
  | fine m b =>
    simp only [tpTk, TkO.fine.injEq] at h
    obtain ⟨h1, _⟩ := h
    split at h1
    · exact .inl h1.symm
    · exact .inr h1.symm
  | bad off code => cases h
theorem txt_kind2 {l : List UInt8} {k : Int} {n : Nat} (h : txt l = .fine k n) : k = 4 ∧ n = txtL l ∧ (strC (l.take (txtL l))).1 = true := by
  unfold txt at h
  split at h
  · rename_i h1; cases h; exact ⟨rfl, rfl, h1⟩
  · split at h <;> cases h
theorem rgTk_kind {l : List UInt8} {o : TpO} {k : Int} {n : Nat} (h : rgTk l o = .fine k n) : k = 6 := by
  cases o with
  | fine m b => exact (aft_fine_inv h).1
  | bad off code => cases h
/-- a number's token. -/
theorem plain_num {goal : Int} {l : List UInt8} {n : Nat} (h : plainT goal l = .fine 3 n) : n = numL l ∧ numL l ≠ 0 := by
  unfold plainT at h
  split at h
  · cases h
  · split at h
    · have := tpTk_kind h; omega
    · split at h
      · unfold priv at h
        split at h
        · cases h
        · split at h
          · cases h
          · have := (aft_fine_inv h).1; omega
      · split at h
        · unfold numT at h
          split at h
          · cases h
          · rename_i h0
            exact ⟨(aft_fine_inv h).2, h0⟩
        · split at h
          · have := (txt_kind2 h).1; omega
          · split at h
            · have := rgTk_kind h; omega
            · split at h
              · have := (aft_fine_inv h).1; omega
              · split at h
                · cases h
                · cases h
theorem runN_head {b : Nat} {l : List UInt8} (h : 0 < runN b false l) : headD b l = true := by
  cases l with
  | nil => exact absurd h (Nat.lt_irrefl 0)
  | cons c t =>
    rw [runN] at h
    split at h
    · rename_i h1; exact h1
    · rw [if_neg (by rintro ⟨_, h2, _⟩; cases h2)] at h
      omega
theorem headD_dig {b : Nat} {l : List UInt8} (hb : b = 0) (h : headD b l = true) : digAt l = true := by
  subst hb
  cases l with
  | nil => cases h
  | cons c t =>
    change isD 0 c = true at h
    unfold isD at h
    show decide (48 ≤ c.toNat ∧ c.toNat ≤ 57) = true
    split at h
    · exact decide_eq_true (by omega)
    · split at h
      · exact decide_eq_true (by omega)
      · split at h
        · exact decide_eq_true (by omega)
        · have := of_decide_eq_true h
          omega
theorem pre48 {l : List UInt8} (h : Lib.hasPrefix l [48] = true) : digAt l = true := by
  cases l with
  | nil => cases h
  | cons c t =>
    have h1 : ((48 : UInt8) == c && true) = true := h
    rw [Bool.and_true] at h1
    have h2 := eq_of_beq h1
    subst h2
    rfl
/-- what scan takes begins with a digit, or with a point and a digit. -/
theorem scanB_head {s : ByteArray} (h : (scanB s).2.2 = true) : digAt s.data.toList = true ∨ (Lib.hasPrefix s.data.toList [46] = true ∧ digAt (s.data.toList.drop 1) = true) := by
  unfold scanB at h
  cases ho : isOth s with
  | true =>
    left
    unfold isOth at ho
    split at ho
    · rename_i h2
      simp only [Bool.and_eq_true] at ho
      have h48 := eq_of_beq ho.1.1
      have := drop_cons s 0 (by omega)
      rw [List.drop_zero] at this
      rw [this, h48]
      rfl
    · cases ho
  | false =>
    rw [ho, if_neg (by decide)] at h
    unfold scanDec at h
    simp only at h
    split at h
    · cases h
    · rename_i hne
      simp only [Bool.and_eq_true, decide_eq_true_eq] at hne
      by_cases hw : (wholeO s).1.size = 0
      · have hp : (partO (wholeO s).2).2.1.size ≠ 0 := fun e => hne ⟨hw, e⟩
        right
        unfold wholeO at hw hp
        cases h48 : Lib.hasPrefix s.data.toList [48] with
        | true =>
          rw [h48, if_pos rfl] at hw
          exact absurd (show (1 : Nat) = 0 from hw) (by decide)
        | false =>
          rw [h48, if_neg (by simp)] at hw hp
          have hr0 : runN 0 false s.data.toList = 0 := by
            unfold runB at hw
            simp only [ByteArray.size_extract] at hw
            have := runN_le 0 false s.data.toList
            rw [ofl] at this
            omega
          have hrest : (runB 0 s).2 = s := by
            unfold runB
            rw [hr0]
            exact ByteArray.extract_zero_size
          rw [hrest] at hp
          unfold partO at hp
          cases h46 : Lib.hasPrefix s.data.toList [46] with
          | false =>
            rw [h46, if_neg (by simp)] at hp
            exact absurd rfl hp
          | true =>
            rw [h46, if_pos rfl] at hp
            refine ⟨rfl, headD_dig rfl (runN_head ?_)⟩
            unfold runB at hp
            simp only [ByteArray.size_extract] at hp
            have e : (s.extract 1 s.size).data.toList = s.data.toList.drop 1 := extract_drop s 1
            rw [e] at hp
            omega
      · left
        unfold wholeO at hw
        cases h48 : Lib.hasPrefix s.data.toList [48] with
        | true => exact pre48 h48
        | false =>
          rw [h48, if_neg (by simp)] at hw
          refine headD_dig rfl (runN_head ?_)
          unfold runB at hw
          simp only [ByteArray.size_extract] at hw
          omega
/-- what a byte that begins a token does not begin. -/
theorem low_gap (c : UInt8) (t : List UInt8) (h : 33 ≤ c.toNat) (h2 : c.toNat < 127) : isGap (c :: t) = false := by
  unfold isGap
  rw [nx_ascii c t (by omega)]
  have hall : ∀ c : Fin 256, 33 ≤ c.val → c.val < 127 → (endsR ((c.val : Nat) : Int) || blankR ((c.val : Nat) : Int)) = false := by decide +kernel
  have := hall ⟨c.toNat, c.toNat_lt⟩ h h2
  simp only at this ⊢
  rw [this]
  rfl
theorem pre_head {c a : UInt8} {t r : List UInt8} (h : c ≠ a) : Lib.hasPrefix (c :: t) (a :: r) = false := by
  show (a == c && _) = false
  rw [show (a == c) = false by rw [beq_eq_false_iff_ne]; exact fun e => h e.symm]
  rfl
theorem low_kind (c : UInt8) (t : List UInt8) (h1 : c ≠ 47) (h2 : c ≠ 35) : cmKind 0 (c :: t) = 0 := by
  unfold cmKind
  rw [pre_head h1, pre_head h1, pre_head h2]
  rfl
/-- a text that begins with such a byte: what Next reads begins at once. -/
theorem nxt_low (s : ByteArray) (goal : Int) (hg : goal = 1 ∨ goal = 2) (c : UInt8) (t : List UInt8) (hs : s.data.toList = c :: t) (h : 33 ≤ c.toNat) (h2 : c.toNat < 127) (h3 : c ≠ 47) (h4 : c ≠ 35) :
    nxt s 0 goal = match plainT goal (c :: t) with
      | .fine kind n => .fine kind 0 n false []
      | .bad off code => .bad ((0 + off : Nat) : Int) code := by
  have hb : btw s 0 false = .fine 0 false [] := btw_stay (Nat.zero_le _) false (by rw [List.drop_zero, hs]; exact low_gap c t h h2) (by rw [List.drop_zero, hs]; exact low_kind c t h3 h4)
  rw [nxt_ok (by omega), if_neg (by omega), hb]
  simp only [List.drop_zero]
  unfold tokT
  rw [if_neg (by omega), if_neg (by omega), if_neg (by omega), hs]
  cases plainT goal (c :: t) <;> rfl
theorem only_num (s : ByteArray) : onlyB s 1 3 = (readB s).2 := by
  rw [Bool.eq_iff_iff]
  constructor
  · intro h
    unfold onlyB at h
    cases hO : nxt s 0 1 with
    | bad place code => rw [hO] at h; cases h
    | fine k q n line cs =>
      rw [hO] at h
      obtain ⟨rfl, rfl, rfl, rfl⟩ := of_decide_eq_true h
      rw [nxt_ok (by omega), if_neg (by omega)] at hO
      cases hb : btw s 0 false with
      | bad place code => rw [hb] at hO; cases hO
      | fine q line' cs' =>
        rw [hb] at hO
        simp only at hO
        cases ht : tokT 1 (s.data.toList.drop q) with
        | bad off code => rw [ht] at hO; cases hO
        | fine kd m =>
          rw [ht] at hO
          cases hO
          rw [List.drop_zero] at ht
          unfold tokT at ht
          rw [if_neg (by omega), if_neg (by omega), if_neg (by omega)] at ht
          obtain ⟨h1, h2⟩ := plain_num ht
          have h3 : longL s.data.toList = s.size := by
            unfold numL at h1 h2
            split at h1
            · rename_i hc; rw [if_pos hc] at h2; exact absurd rfl h2
            · exact h1.symm
          have h4 : longB s = s.size := by
            have e : longL s.data.toList = longB s := by unfold longL; rw [byteArray_ext s s.data.toList rfl]
            rw [← e]; exact h3
          have hpos : 0 < s.size := by omega
          unfold longB at h4
          split at h4
          · rename_i hok
            unfold readB
            simp only
            rw [hok, Bool.true_and]
            exact isEmpty_zero (by have := scanB_size s; omega)
          · omega
  · intro h
    unfold readB at h
    simp only [Bool.and_eq_true] at h
    obtain ⟨hok, hem⟩ := h
    have hz := size_of_empty hem
    have hlong : longB s = s.size := by unfold longB; rw [if_pos hok, hz]; rfl
    have hll : longL s.data.toList = s.size := by
      have e : longL s.data.toList = longB s := by unfold longL; rw [byteArray_ext s s.data.toList rfl]
      rw [e]; exact hlong
    have hhead := scanB_head hok
    cases hl : s.data.toList with
    | nil =>
      rw [hl] at hhead
      rcases hhead with h | ⟨h, _⟩ <;> cases h
    | cons c t =>
      rw [hl] at hhead
      have hc : (48 ≤ c.toNat ∧ c.toNat ≤ 57) ∨ c = 46 := by
        rcases hhead with h | ⟨h, _⟩
        · exact .inl (of_decide_eq_true h)
        · right
          have h1 : ((46 : UInt8) == c && true) = true := h
          rw [Bool.and_true] at h1
          exact (eq_of_beq h1).symm
      have hcr : 46 ≤ c.toNat ∧ c.toNat ≤ 57 ∧ c.toNat ≠ 47 := by
        rcases hc with h | rfl
        · omega
        · decide
      have hne : ∀ a : UInt8, (a.toNat < 46 ∨ 57 < a.toNat ∨ a.toNat = 47) → c ≠ a := by
        rintro a h rfl
        omega
      have hnum : numL (c :: t) = s.size := by
        unfold numL
        rw [hl] at hll
        have hlen : (c :: t).length = s.size := by rw [← hl, ofl]
        rw [hll, List.drop_of_length_le (by omega), if_neg]
        rintro ⟨h0, _⟩
        exact absurd h0 (by decide)
      have hlen : (c :: t).length = s.size := by rw [← hl, ofl]
      have hpos : 0 < s.size := by rw [← hlen]; simp
      have hpl : plainT 1 (c :: t) = .fine 3 s.size := by
        unfold plainT
        rw [if_neg (by simp), if_neg (by rw [pre_head (hne 96 (by decide))]; decide), if_neg (by rw [pre_head (hne 35 (by decide))]; decide), if_pos hhead]
        unfold numT
        rw [hnum, if_neg (by omega)]
        exact aft_fine (by rw [List.drop_of_length_le (by omega)]; decide)
      unfold onlyB
      rw [nxt_low s 1 (.inl rfl) c t hl (by omega) (by omega) (hne 47 (by decide)) (hne 35 (by decide)), hpl]
      exact decide_eq_true ⟨rfl, rfl, rfl, rfl⟩
set_option maxRecDepth 20000 in
set_option maxHeartbeats 1000000 in
theorem numbers_any (s : ByteArray) (w : World) (hs : s.size ≤ 16777216) (hX : Lx w) :
    Calls Tryd.prog 12 #[.string s] w fun e w' => e = .returned (.bool true) ∧ Below w.heap.size w w' := by
  have hA := lawake_any w hX
  have hC := fun W h => check_any s W hs h
  have hO := fun W h => only_any s 1 3 W hs h
  rw [only_num s] at hO
  generalize (readB s).2 = r at *
  have HA := Lib.hid hA
  have HC := Lib.hid hC
  have HO := Lib.hid hO
  have HX := Lib.hid hX
  clear hA hC hO hX
  cases r with
  | true =>
    go_enter Tryd.func12, Tryd.ntmps12
    go_upto_region 3 with (go_at_call 13; refine HA.out.mono ?_; rintro e w1 ⟨rfl, hb1⟩)
    go_upto_region 4 with (go_at_call 20; refine (HC.out _ (HX.out.bel hb1).max).mono ?_; rintro e w2 ⟨rfl, hb2⟩)
    go_wp2_with (first | (go_at_call 17; refine (HO.out _ ((HX.out.bel hb1).bel hb2)).mono ?_; rintro e w3 ⟨rfl, hb3⟩) | (go_at_call 15; refine (lnum_any _ _).mono ?_; rintro e w' ⟨rfl, rfl⟩))
    go_ret
    exact ⟨rfl, bel_next (bel_next hb1 hb2) hb3⟩
  | false =>
    go_enter Tryd.func12, Tryd.ntmps12
    go_upto_region 3 with (go_at_call 13; refine HA.out.mono ?_; rintro e w1 ⟨rfl, hb1⟩)
    go_upto_region 4 with (go_at_call 20; refine (HC.out _ (HX.out.bel hb1).max).mono ?_; rintro e w2 ⟨rfl, hb2⟩)
    go_wp2_with (first | (go_at_call 17; refine (HO.out _ ((HX.out.bel hb1).bel hb2)).mono ?_; rintro e w3 ⟨rfl, hb3⟩) | (go_at_call 15; refine (lnum_any _ _).mono ?_; rintro e w' ⟨rfl, rfl⟩))
    go_ret
    exact ⟨rfl, bel_next (bel_next hb1 hb2) hb3⟩
end Go.Proofs.YtdkkfbakggbaeaaDoor
namespace Go.Proofs.YtdkkfbakggbaeaaDoor
open Go.RowKit

theorem decodeN_grow (n m b0 b1 b2 b3 B1 B2 B3 : Nat) (h1 : 1 < n → B1 = b1) (h2 : 2 < n → B2 = b2) (h3 : 3 < n → B3 = b3) (hne : Lib.decodeN n b0 b1 b2 b3 ≠ (65533, 1)) (hm : n ≤ m) : Lib.decodeN m b0 B1 B2 B3 = Lib.decodeN n b0 b1 b2 b3 := by
  unfold Lib.decodeN at hne ⊢
  by_cases a : b0 < 128
  · rw [if_pos a, if_pos a]
  · rw [if_neg a, if_neg a]
    rw [if_neg a] at hne
    by_cases c2 : b0 / 32 = 6 ∧ (1 < n ∧ b1 / 64 = 2)
    · have e1 := h1 c2.2.1
      subst e1
      rw [if_pos c2, if_pos ⟨c2.1, by omega, c2.2.2⟩]
    · rw [if_neg c2] at hne ⊢
      by_cases c3 : b0 / 16 = 14 ∧ (1 < n ∧ b1 / 64 = 2) ∧ (2 < n ∧ b2 / 64 = 2)
      · have e1 := h1 c3.2.1.1
        have e2 := h2 c3.2.2.1
        subst e1
        subst e2
        rw [if_pos c3, if_neg (by omega), if_pos ⟨c3.1, ⟨by omega, c3.2.1.2⟩, by omega, c3.2.2.2⟩]
      · rw [if_neg c3] at hne ⊢
        by_cases c4 : b0 / 8 = 30 ∧ (1 < n ∧ b1 / 64 = 2) ∧ (2 < n ∧ b2 / 64 = 2) ∧ (3 < n ∧ b3 / 64 = 2)
        · have e1 := h1 c4.2.1.1
          have e2 := h2 c4.2.2.1.1
          have e3 := h3 c4.2.2.2.1
          subst e1
          subst e2
          subst e3
          rw [if_pos c4, if_neg (by omega), if_neg (by omega), if_pos ⟨c4.1, ⟨by omega, c4.2.1.2⟩, ⟨by omega, c4.2.2.1.2⟩, by omega, c4.2.2.2.2⟩]
        · rw [if_neg c4] at hne
          exact absurd rfl hne
theorem nx_decodeL {l : List UInt8} (hl : l ≠ []) : nx l = if (Lib.decodeL l).1 = 65533 ∧ (Lib.decodeL l).2 = 1 then (((0 : Int), (-1 : Int)) : Int × Int) else (((Lib.decodeL l).1 : Int), ((Lib.decodeL l).2 : Int)) := by
  have hd : Lib.decodeGo ⟨l.toArray⟩ = Lib.decodeL l := by
    unfold Lib.decodeGo Lib.decodeL
    rw [if_neg]
    show l.length ≠ 0
    exact fun e => hl (List.length_eq_zero_iff.1 e)
  unfold nx
  rw [hd]
theorem nx_app {l : List UInt8} (x : List UInt8) (h : 0 < (nx l).2) : nx (l ++ x) = nx l := by
  have hl : l ≠ [] := by
    rintro rfl
    exact absurd h (by decide)
  have hl2 : l ++ x ≠ [] := by simp [hl]
  rw [nx_decodeL hl] at h
  rw [nx_decodeL hl, nx_decodeL hl2]
  have hne : Lib.decodeL l ≠ (65533, 1) := by
    intro e
    rw [e, if_pos ⟨rfl, rfl⟩] at h
    exact absurd h (by decide)
  have e : Lib.decodeL (l ++ x) = Lib.decodeL l := by
    rw [Lib.decodeL_N] at hne
    rw [Lib.decodeL_N, Lib.decodeL_N]
    have hg : ∀ i, i < l.length → (l ++ x).getD i 0 = l.getD i 0 := fun i hi => by simp [List.getD, List.getElem?_append_left hi]
    have h0 : 0 < l.length := List.length_pos_iff.2 hl
    rw [hg 0 h0]
    exact decodeN_grow _ _ _ _ _ _ _ _ _ (fun h => by rw [hg 1 h]) (fun h => by rw [hg 2 h]) (fun h => by rw [hg 3 h]) hne (by simp)
  rw [e]
def nameOK (l : List UInt8) : Bool := decide (l ≠ [] ∧ nameL false l = l.length)
theorem partC_fffd : partC 65533 = false := by decide +kernel
theorem nx_at (s : ByteArray) (i : Nat) (h : i < s.size) : nx (s.data.toList.drop i) = if (Utf8.decode s i).1 = 65533 ∧ (Utf8.decode s i).2 = 1 then (((0 : Int), (-1 : Int)) : Int × Int) else (((Utf8.decode s i).1 : Int), ((Utf8.decode s i).2 : Int)) := by
  rw [nx_decodeL (by intro e; have := congrArg List.length e; rw [List.length_drop, ofl] at this; simp at this; omega), Lib.decodeL_drop]
set_option maxRecDepth 1000000 in
set_option maxHeartbeats 1000000 in
theorem wname_any (s : ByteArray) (w : World) (hs : s.size ≤ 16777216) :
    Calls Tryd.prog 19 #[.string s] w fun e w' => e = .returned (.bool (nameOK s.data.toList)) ∧ Below w.heap.size w w' := by
  obtain ⟨B, hB⟩ : ∃ B, nameOK s.data.toList = B := ⟨_, rfl⟩
  rw [hB]
  have HB := Lib.hid hB
  clear hB
  go_enter Tryd.func19, Tryd.ntmps19
  go_wp2_with fail
  go_loopw [2, 3, 4] (fun _ _ _ wx => ∃ i : Nat, i ≤ s.size ∧ wx.heap[w.heap.size]? = some (.stringIter s i) ∧ Below w.heap.size w wx ∧ w.heap.size < wx.heap.size ∧ partsL false s.data.toList = i + partsL false (s.data.toList.drop i) ∧ (0 < i → 0 < (nx s.data.toList).2 ∧ startC (nx s.data.toList).1 = true)) (fun _ _ _ wx => s.size - wx.iterPos w.heap.size)
  case atStart => exact ⟨0, by omega, World.iter_heap _ _ _, (Below.refl _ _).alloc (Nat.le_refl _) _, by show _ < (w.heap.push _).size; simp, by simp, fun h => absurd h (by omega)⟩
  case round =>
    obtain ⟨i, hi, hk, hb, hlt, hv, hst⟩ := hrel
    by_cases hlts : i < s.size
    · have hnx := fun ty => Lib.run_next_any_at (P := Tryd.prog) wr _ s i ty hk hlts
      have hna := nx_at s i hlts
      have hn1 : 1 ≤ (Utf8.decode s i).2 := Lib.width_pos s i
      have hnl : (Utf8.decode s i).2 ≤ s.size - i := by
        have := Lib.decodeL_le (s.data.toList.drop i) (by intro e; have := congrArg List.length e; rw [List.length_drop, ofl] at this; simp at this; omega)
        rw [Lib.decodeL_drop, List.length_drop, ofl] at this
        exact this
      have hrl := Lib.rune_le s i
      obtain ⟨⟨c, n⟩, hcn⟩ : ∃ p, Utf8.decode s i = p := ⟨_, rfl⟩
      rw [hcn] at hnx hna hn1 hnl hrl
      simp only at hnx hna hn1 hnl hrl
      clear hcn
      have hk2 := Lib.iterAt_heap wr _ s i (i + n) hk
      have hb2 : Below w.heap.size w (wr.iterAt w.heap.size s (i + n)) := Lib.below_iterAt hb (Nat.le_refl _) _ _
      have hl2 : w.heap.size < (wr.iterAt w.heap.size s (i + n)).heap.size := by rw [Lib.iterAt_size]; exact hlt
      generalize wr.iterAt w.heap.size s (i + n) = w2 at *
      have HK := Lib.hid hk2
      have HKr := Lib.hid hk
      have HNA := Lib.hid hna
      have HV := Lib.hid hv
      have HST := Lib.hid hst
      -- it does not go on
      have hstop : goesP false (s.data.toList.drop i) = false → B = false := fun hg => by
        rw [← HB.out]
        refine decide_eq_false (fun ⟨_, h⟩ => ?_)
        have h1 := HV.out
        rw [partsL_no hg] at h1
        unfold nameL at h
        rw [ofl] at h
        split at h
        · omega
        · omega
      have HSTOP := Lib.hid hstop
      clear hna hv hst hstop hk hk2 hb
      by_cases hc : c = 65533
      · have HW := Lib.hid (show B = false from HSTOP.out (by
          have hna := HNA.out
          unfold goesP
          by_cases hn : n = 1
          · rw [if_pos ⟨hc, hn⟩] at hna
            rw [hna]
            rfl
          · rw [if_neg (fun h => hn h.2)] at hna
            rw [hna]
            simp only [hc]
            rw [show partC ((65533 : Nat) : Int) = false from partC_fffd]
            simp))
        subst hc
        go_wp2_with fail
        go_ret
        exact ⟨by rw [HW.out]; rfl, hb2⟩
      · have bc : ((c : Int) == 65533) = false := by rw [beq_eq_false_iff_ne]; omega
        have hna := HNA.out
        rw [if_neg (fun h => hc h.1)] at hna
        have hP := fun W => part_any (c : Int) W
        cases hp : partC (c : Int) with
        | false =>
          rw [hp] at hP
          have HP := Lib.hid hP
          have HW := Lib.hid (show B = false from HSTOP.out (by unfold goesP; rw [hna]; simp only [hp]; simp))
          clear hP hp hna hc
          go_wp2_with (go_at_call 27; refine (HP.out _).mono ?_; rintro e w3 ⟨rfl, hb3⟩)
          go_ret
          exact ⟨by rw [HW.out]; rfl, hb2.trans (hb3.mono (by omega))⟩
        | true =>
          rw [hp] at hP
          have HP := Lib.hid hP
          have hgo : goesP false (s.data.toList.drop i) = true := by
            unfold goesP
            rw [hna]
            simp only [hp]
            simp
            omega
          have HN := Lib.hid (show partsL false s.data.toList = i + n + partsL false (s.data.toList.drop (i + n)) by
            rw [HV.out, partsL_yes hgo, hna, Int.toNat_natCast, List.drop_drop]
            omega)
          clear hP hp hgo
          by_cases hi0 : i = 0
          · have hS := fun W => start_any (c : Int) W
            cases hs1 : startC (c : Int) with
            | false =>
              rw [hs1] at hS
              have HS := Lib.hid hS
              have HW := Lib.hid (show B = false by
                rw [← HB.out]
                refine decide_eq_false (fun ⟨hne, h⟩ => ?_)
                rw [hi0, List.drop_zero] at hna
                unfold nameL at h
                rw [if_neg (by rw [hna]; simp only [hs1]; simp)] at h
                exact hne (List.length_eq_zero_iff.1 h.symm))
              clear hS hs1 hna hc
              subst hi0
              go_wp2_with (first | (go_at_call 27; refine (HP.out _).mono ?_; rintro e w3 ⟨rfl, hb3⟩) | (go_at_call 28; refine (HS.out _).mono ?_; rintro e w4 ⟨rfl, hb4⟩))
              go_ret
              exact ⟨by rw [HW.out]; rfl, hb2.trans ((bel_next hb3 hb4).mono (by omega))⟩
            | true =>
              rw [hs1] at hS
              have HS := Lib.hid hS
              have HZ := Lib.hid (show 0 < (nx s.data.toList).2 ∧ startC (nx s.data.toList).1 = true by
                rw [hi0, List.drop_zero] at hna
                rw [hna]
                exact ⟨by simp only; omega, hs1⟩)
              clear hS hs1 hna hc
              subst hi0
              go_wp2_with (first | (go_at_call 27; refine (HP.out _).mono ?_; rintro e w3 ⟨rfl, hb3⟩) | (go_at_call 28; refine (HS.out _).mono ?_; rintro e w4 ⟨rfl, hb4⟩))
              have hbb := bel_next hb3 hb4
              have hk3 : w4.heap[w.heap.size]? = some (.stringIter s (0 + n)) := (hbb.block _ hl2).trans HK.out
              go_roundw
              case rel => exact ⟨0 + n, by omega, hk3, hb2.trans (hbb.mono (by omega)), by have := hbb.size; omega, HN.out, fun _ => HZ.out⟩
              case measure => simp [World.iterPos, hk3, HKr.out]; omega
          · have bi : (((i : Nat) : Int) == 0) = false := by rw [beq_eq_false_iff_ne]; omega
            have HZ := Lib.hid (HST.out (by omega))
            clear hna hc
            go_wp2_with (go_at_call 27; refine (HP.out _).mono ?_; rintro e w3 ⟨rfl, hb3⟩)
            have hk3 : w3.heap[w.heap.size]? = some (.stringIter s (i + n)) := (hb3.block _ hl2).trans HK.out
            go_roundw
            case rel => exact ⟨i + n, by omega, hk3, hb2.trans (hb3.mono (by omega)), by have := hb3.size; omega, HN.out, fun _ => HZ.out⟩
            case measure => simp [World.iterPos, hk3, HKr.out]; omega
    · obtain rfl : i = s.size := by omega
      have hnx := fun ty => Lib.run_next_end_at (P := Tryd.prog) wr _ s s.size ty hk (by omega)
      by_cases hz : s.size = 0
      · have HW := Lib.hid (show B = false by rw [← HB.out]; exact decide_eq_false (fun h => h.1 (List.length_eq_zero_iff.1 (by rw [ofl]; exact hz))))
        have hem := isEmpty_zero hz
        clear hv hst hz
        go_wp2_with fail
        go_ret
        exact ⟨by rw [HW.out]; rfl, hb⟩
      · have hpos : 0 < s.size := by omega
        have HW := Lib.hid (show B = true by
          rw [← HB.out]
          refine decide_eq_true ⟨fun e => hz (by rw [← ofl, e]; rfl), ?_⟩
          unfold nameL
          rw [if_pos (hst hpos), hv, List.drop_of_length_le (by rw [ofl]; exact Nat.le_refl _), ofl]
          rfl)
        have hem := isEmpty_pos hpos
        clear hv hst hz
        go_wp2_with fail
        go_ret
        exact ⟨by rw [HW.out]; rfl, hb⟩
end Go.Proofs.YtdkkfbakggbaeaaDoor
namespace Go.Proofs.YtdkkfbakggbaeaaDoor
open Go.RowKit

theorem start_low : ∀ c : Fin 128, startC ((c.val : Nat) : Int) = true → (65 ≤ c.val ∧ c.val ≠ 91 ∧ c.val ≠ 92 ∧ c.val ≠ 93 ∧ c.val ≠ 94 ∧ c.val ≠ 96 ∧ c.val < 123) ∨ c.val = 36 := by decide +kernel
/-- a character that begins a name begins nothing else. -/
theorem start_head {c : UInt8} {l : List UInt8} (_ : 0 < (nx (c :: l)).2) (hs : startC (nx (c :: l)).1 = true) : 128 ≤ c.toNat ∨ ((65 ≤ c.toNat ∧ c.toNat ≠ 91 ∧ c.toNat ≠ 92 ∧ c.toNat ≠ 93 ∧ c.toNat ≠ 94 ∧ c.toNat ≠ 96 ∧ c.toNat < 123) ∨ c.toNat = 36) := by
  by_cases h1 : c.toNat < 128
  · right
    rw [nx_ascii c l h1] at hs
    exact start_low ⟨c.toNat, h1⟩ hs
  · exact .inl (by omega)
theorem oneL_mem {c : Int} : ∀ {l : List Int}, oneL c l = true → c ∈ l
  | [], h => by cases h
  | a :: l, h => by
    rw [oneL] at h
    split at h
    · rename_i e; rw [e]; exact .head _
    · exact .tail _ (oneL_mem h)
theorem gap_start {c : Int} (h : (endsR c || blankR c) = true) : startC c = false := by
  rw [Bool.or_eq_true] at h
  rcases h with h | h
  · have := oneL_mem h
    simp only [endsT, List.mem_cons, List.not_mem_nil, or_false] at this
    rcases this with rfl | rfl | rfl | rfl <;> decide +kernel
  · unfold blankR at h
    rw [Bool.or_eq_true] at h
    rcases h with h | h
    · have := oneL_mem h
      simp only [blankT, List.mem_cons, List.not_mem_nil, or_false] at this
      rcases this with rfl | rfl | rfl | rfl | rfl | rfl | rfl | rfl | rfl | rfl <;> decide +kernel
    · rw [inL] at h
      split at h
      · rename_i hr
        have : c = 8192 ∨ c = 8193 ∨ c = 8194 ∨ c = 8195 ∨ c = 8196 ∨ c = 8197 ∨ c = 8198 ∨ c = 8199 ∨ c = 8200 ∨ c = 8201 ∨ c = 8202 := by omega
        rcases this with rfl | rfl | rfl | rfl | rfl | rfl | rfl | rfl | rfl | rfl | rfl <;> decide +kernel
      · cases h
/-- where neither a blank nor a comment stands at the text's beginning. -/
theorem nxt_zero (s : ByteArray) (goal : Int) (hg : goal = 1 ∨ goal = 2 ∨ goal = 5) (h1 : isGap s.data.toList = false) (h2 : cmKind 0 s.data.toList = 0) :
    nxt s 0 goal = match tokT goal s.data.toList with
      | .fine kind n => .fine kind 0 n false []
      | .bad off code => .bad ((0 + off : Nat) : Int) code := by
  have hb : btw s 0 false = .fine 0 false [] := btw_stay (Nat.zero_le _) false (by rw [List.drop_zero]; exact h1) (by rw [List.drop_zero]; exact h2)
  rw [nxt_ok (by omega), if_neg (by omega), hb]
  simp only [List.drop_zero]
  cases tokT goal s.data.toList <;> rfl
theorem only_of (s : ByteArray) (goal kind : Int) (hg : goal = 1 ∨ goal = 2 ∨ goal = 5) (h1 : isGap s.data.toList = false) (h2 : cmKind 0 s.data.toList = 0) (h3 : tokT goal s.data.toList = .fine kind s.size) : onlyB s goal kind = true := by
  unfold onlyB
  rw [nxt_zero s goal hg h1 h2, h3]
  exact decide_eq_true ⟨rfl, rfl, rfl, rfl⟩
theorem of_only {s : ByteArray} {goal kind : Int} (hg : goal = 1 ∨ goal = 2 ∨ goal = 5) (h : onlyB s goal kind = true) : tokT goal s.data.toList = .fine kind s.size := by
  unfold onlyB at h
  cases hO : nxt s 0 goal with
  | bad place code => rw [hO] at h; cases h
  | fine k q n line cs =>
    rw [hO] at h
    obtain ⟨rfl, rfl, rfl, rfl⟩ := of_decide_eq_true h
    rw [nxt_ok (by omega), if_neg (by omega)] at hO
    cases hb : btw s 0 false with
    | bad place code => rw [hb] at hO; cases hO
    | fine q line' cs' =>
      rw [hb] at hO
      simp only at hO
      cases ht : tokT goal (s.data.toList.drop q) with
      | bad off code => rw [ht] at hO; cases hO
      | fine kd m =>
        rw [ht] at hO
        cases hO
        rw [List.drop_zero] at ht
        exact ht
theorem plain_name {goal : Int} {l : List UInt8} {n : Nat} (h : plainT goal l = .fine 1 n) : n = nameL false l ∧ l ≠ [] := by
  unfold plainT at h
  split at h
  · cases h
  · rename_i hne
    refine ⟨?_, hne⟩
    split at h
    · have := tpTk_kind h; omega
    · split at h
      · unfold priv at h
        split at h
        · cases h
        · split at h
          · cases h
          · have := (aft_fine_inv h).1; omega
      · split at h
        · unfold numT at h
          split at h
          · cases h
          · have := (aft_fine_inv h).1; omega
        · split at h
          · have := (txt_kind2 h).1; omega
          · split at h
            · have := rgTk_kind h; omega
            · split at h
              · exact (aft_fine_inv h).2
              · split at h
                · cases h
                · cases h
theorem plain_priv {goal : Int} {l : List UInt8} {n : Nat} (h : plainT goal l = .fine 2 n) : n = 1 + nameL false (l.drop 1) ∧ nameL false (l.drop 1) ≠ 0 := by
  unfold plainT at h
  split at h
  · cases h
  · split at h
    · have := tpTk_kind h; omega
    · split at h
      · unfold priv at h
        split at h
        · cases h
        · split at h
          · cases h
          · rename_i h0
            exact ⟨(aft_fine_inv h).2, h0⟩
      · split at h
        · unfold numT at h
          split at h
          · cases h
          · have := (aft_fine_inv h).1; omega
        · split at h
          · have := (txt_kind2 h).1; omega
          · split at h
            · have := rgTk_kind h; omega
            · split at h
              · have := (aft_fine_inv h).1; omega
              · split at h
                · cases h
                · cases h
/-- what a name's text is. -/
theorem nameOK_of {l : List UInt8} (h : nameOK l = true) : ∃ c t, l = c :: t ∧ nameL false l = l.length ∧ 0 < (nx l).2 ∧ startC (nx l).1 = true := by
  obtain ⟨h1, h2⟩ := of_decide_eq_true h
  cases l with
  | nil => exact absurd rfl h1
  | cons c t =>
    refine ⟨c, t, rfl, h2, ?_⟩
    by_cases hs : 0 < (nx (c :: t)).2 ∧ startC (nx (c :: t)).1 = true
    · exact hs
    · unfold nameL at h2
      rw [if_neg hs] at h2
      simp at h2
theorem name_gap {l : List UInt8} (h : startC (nx l).1 = true) : isGap l = false := by
  unfold isGap
  cases hg : (endsR (nx l).1 || blankR (nx l).1) with
  | false => rw [Bool.and_false]
  | true => rw [gap_start hg] at h; cases h
theorem partsL_app (x : List UInt8) : ∀ (f : Nat) (l : List UInt8), l.length ≤ f → partsL false l = l.length → partsL true (l ++ x) = l.length + partsL true x
  | 0, l, h, _ => by
    have : l = [] := List.length_eq_zero_iff.1 (by omega)
    subst this
    simp
  | f + 1, l, hf, h => by
    by_cases hl : l = []
    · subst hl
      simp
    · have hpos := List.length_pos_iff.2 hl
      cases hg : goesP false l with
      | false => rw [partsL_no hg] at h; omega
      | true =>
        obtain ⟨n, h1, h2, h3, _⟩ := goesP_pos hg
        rw [partsL_yes hg, h1, Int.toNat_natCast] at h
        have hn := nx_app x (l := l) (by omega)
        have hg2 : goesP true (l ++ x) = true := by
          unfold goesP at hg ⊢
          rw [hn]
          simp only [Bool.and_eq_true, Bool.or_eq_true, Bool.false_and, Bool.false_eq_true, or_false] at hg ⊢
          exact ⟨hg.1, .inl hg.2⟩
        rw [partsL_yes hg2, hn, h1, Int.toNat_natCast, List.drop_append_of_le_length h3, partsL_app x f (l.drop n) (by rw [List.length_drop]; omega) (by rw [List.length_drop]; omega), List.length_drop]
        omega
theorem nameL_app {l x : List UInt8} (h : nameL false l = l.length) (hs : 0 < (nx l).2 ∧ startC (nx l).1 = true) : nameL true (l ++ x) = l.length + partsL true x := by
  unfold nameL at h ⊢
  rw [if_pos hs] at h
  rw [nx_app x hs.1, if_pos hs]
  exact partsL_app x l.length l (Nat.le_refl _) h
theorem aft_end {l : List UInt8} {kind : Int} {n : Nat} (h : n = l.length) : aft l kind n = .fine kind n := aft_fine (by rw [List.drop_of_length_le (by omega)]; decide)
theorem plain_of_name {goal : Int} {l : List UInt8} (h : nameOK l = true) : plainT goal l = .fine 1 l.length := by
  obtain ⟨c, t, rfl, h1, h2, h3⟩ := nameOK_of h
  have hh := start_head h2 h3
  have hne : ∀ a : UInt8, (a.toNat < 36 ∨ (36 < a.toNat ∧ a.toNat < 65) ∨ a.toNat = 96) → c ≠ a := by
    rintro a ha rfl
    omega
  unfold plainT
  rw [if_neg (by simp), if_neg (by rw [pre_head (hne 96 (by decide))]; decide), if_neg (by rw [pre_head (hne 35 (by decide))]; decide), if_neg, if_neg (by rw [pre_head (hne 39 (by decide)), pre_head (hne 34 (by decide))]; decide), if_neg (by rw [pre_head (hne 47 (by decide))]; rintro ⟨_, h⟩; cases h), if_pos (by rw [h1]; simp), h1]
  · exact aft_end rfl
  · rintro (hd | ⟨hd, _⟩)
    · have := of_decide_eq_true hd
      omega
    · rw [pre_head (hne 46 (by decide))] at hd
      cases hd
theorem kind_of_name {l : List UInt8} (h : nameOK l = true) : isGap l = false ∧ cmKind 0 l = 0 := by
  obtain ⟨c, t, rfl, h1, h2, h3⟩ := nameOK_of h
  have hh := start_head h2 h3
  refine ⟨name_gap h3, low_kind c t ?_ ?_⟩
  · rintro rfl; have : (47 : UInt8).toNat = 47 := rfl; omega
  · rintro rfl; have : (35 : UInt8).toNat = 35 := rfl; omega
theorem only_name (s : ByteArray) (goal : Int) (hg : goal = 1 ∨ goal = 2) : onlyB s goal 1 = nameOK s.data.toList := by
  have htk : tokT goal s.data.toList = plainT goal s.data.toList := by
    unfold tokT
    rw [if_neg (by omega), if_neg (by omega), if_neg (by omega)]
  rw [Bool.eq_iff_iff]
  constructor
  · intro h
    have ht := of_only (by omega) h
    rw [htk] at ht
    obtain ⟨h1, h2⟩ := plain_name ht
    exact decide_eq_true ⟨h2, by rw [← h1, ofl]⟩
  · intro h
    obtain ⟨h1, h2⟩ := kind_of_name h
    refine only_of s goal 1 (by omega) h1 h2 ?_
    rw [htk, plain_of_name h, ofl]
theorem only_priv (s : ByteArray) : onlyB (⟨#[35]⟩ ++ s) 1 2 = nameOK s.data.toList := by
  have hl : (⟨#[35]⟩ ++ s : ByteArray).data.toList = 35 :: s.data.toList := by simp [ByteArray.data_append]
  have hsz : (⟨#[35]⟩ ++ s : ByteArray).size = s.data.toList.length + 1 := by rw [← ofl, hl]; simp
  have htk : tokT 1 (35 :: s.data.toList) = plainT 1 (35 :: s.data.toList) := by
    unfold tokT
    rw [if_neg (by omega), if_neg (by omega), if_neg (by omega)]
  rw [Bool.eq_iff_iff]
  constructor
  · intro h
    have ht := of_only (by omega) h
    rw [hl, htk] at ht
    obtain ⟨h1, h2⟩ := plain_priv ht
    simp only [List.drop_succ_cons, List.drop_zero] at h1 h2
    rw [hsz] at h1
    refine decide_eq_true ⟨fun e => h2 (by rw [e]; decide), by omega⟩
  · intro h
    obtain ⟨c, t, hct, h1, h2, h3⟩ := nameOK_of h
    have hh := start_head (c := c) (l := t) (by rw [← hct]; exact h2) (by rw [← hct]; exact h3)
    have hgap : isGap (35 :: s.data.toList) = false := low_gap 35 _ (by decide) (by decide)
    have hkind : cmKind 0 (35 :: s.data.toList) = 0 := by
      unfold cmKind
      rw [pre_head (by decide), pre_head (by decide), hct]
      have hx : Lib.hasPrefix (35 :: c :: t) [35, 33] = false := by
        show ((35 : UInt8) == 35 && ((33 : UInt8) == c && true)) = false
        rw [show ((33 : UInt8) == c) = false by rw [beq_eq_false_iff_ne]; rintro rfl; have : (33 : UInt8).toNat = 33 := rfl; omega]
        rfl
      rw [hx]
      rfl
    refine only_of _ 1 2 (by omega) (by rw [hl]; exact hgap) (by rw [hl]; exact hkind) ?_
    rw [hl, htk, hsz]
    unfold plainT
    rw [if_neg (by simp), if_neg (by rw [pre_head (by decide)]; decide), if_pos (show Lib.hasPrefix (35 :: s.data.toList) [35] = true from rfl)]
    unfold priv
    simp only [List.drop_succ_cons, List.drop_zero]
    have hpos : 0 < s.data.toList.length := by rw [hct]; simp
    rw [if_neg (by omega), if_neg (by omega), h1, Nat.add_comm]
    exact aft_end (by simp)
theorem tag_of_name {l x : List UInt8} (h : nameOK l = true) : tagT (l ++ x) = aft (l ++ x) 1 (l.length + partsL true x) ∧ isGap (l ++ x) = false ∧ cmKind 0 (l ++ x) = 0 := by
  obtain ⟨c, t, rfl, h1, h2, h3⟩ := nameOK_of h
  have hh := start_head h2 h3
  have hn := nameL_app (x := x) h1 ⟨h2, h3⟩
  have hna := nx_app x h2
  have hne : ∀ a : UInt8, (a.toNat < 36 ∨ (36 < a.toNat ∧ a.toNat < 65) ∨ a.toNat = 96 ∨ a.toNat = 123) → c ≠ a := by
    rintro a ha rfl
    omega
  refine ⟨?_, name_gap (by rw [hna]; exact h3), low_kind c (t ++ x) (hne 47 (by decide)) (hne 35 (by decide))⟩
  rw [List.cons_append] at hn ⊢
  rw [tagT, if_neg, if_neg, if_pos, hn]
  · rw [hn]; simp
  · unfold tagP
    rw [show (c == 60) = false by rw [beq_eq_false_iff_ne]; exact hne 60 (by decide), show (c == 62) = false by rw [beq_eq_false_iff_ne]; exact hne 62 (by decide), show (c == 47) = false by rw [beq_eq_false_iff_ne]; exact hne 47 (by decide), show (c == 123) = false by rw [beq_eq_false_iff_ne]; exact hne 123 (by decide), show (c == 61) = false by rw [beq_eq_false_iff_ne]; exact hne 61 (by decide), show (c == 46) = false by rw [beq_eq_false_iff_ne]; exact hne 46 (by decide), show (c == 58) = false by rw [beq_eq_false_iff_ne]; exact hne 58 (by decide)]
    decide
  · rintro (h | h)
    · exact hne 39 (by decide) h
    · exact hne 34 (by decide) h
theorem only_tag (s x : ByteArray) (h : nameOK s.data.toList = true) (hx : partsL true x.data.toList = x.size) : onlyB (s ++ x) 5 1 = true := by
  have hl : (s ++ x : ByteArray).data.toList = s.data.toList ++ x.data.toList := by simp [ByteArray.data_append]
  have hsz : (s ++ x : ByteArray).size = s.data.toList.length + x.size := by rw [← ofl, hl, List.length_append, ofl x]
  obtain ⟨h1, h2, h3⟩ := tag_of_name (x := x.data.toList) h
  refine only_of _ 5 1 (by omega) (by rw [hl]; exact h2) (by rw [hl]; exact h3) ?_
  rw [hl, hsz]
  unfold tokT
  rw [if_neg (by omega), if_neg (by omega), if_pos rfl, h1, hx]
  exact aft_end (by rw [List.length_append, ofl x])
end Go.Proofs.YtdkkfbakggbaeaaDoor
namespace Go.Proofs.YtdkkfbakggbaeaaDoor
open Go.RowKit

/-- a byte that the reader passes on its way to a text's end. -/
def ordB (q c : UInt8) : Prop := c ≠ q ∧ c ≠ 10 ∧ c ≠ 13 ∧ c ≠ 92
theorem sc_ord (q : UInt8) : ∀ (n : Nat) (l : List UInt8), n ≤ l.length → (∀ i, i < n → ∃ c, l[i]? = some c ∧ ordB q c) → sc q l = n + sc q (l.drop n)
  | 0, l, _, _ => by rw [List.drop_zero, Nat.zero_add]
  | n + 1, [], h, _ => by simp at h
  | n + 1, c :: l, h, ho => by
    obtain ⟨c', h1, h2⟩ := ho 0 (by omega)
    have e : c = c' := by simpa using h1
    subst e
    rw [sc_step, if_neg (by rintro (h | h | h); exact h2.1 h; exact h2.2.1 h; exact h2.2.2.1 h), if_neg h2.2.2.2, List.drop_succ_cons, sc_ord q n l (by simpa using h) (fun i hi => by
      obtain ⟨d, k1, k2⟩ := ho (i + 1) (by omega)
      exact ⟨d, by simpa using k1, k2⟩)]
    omega
theorem ord_high {q c : UInt8} (hq : q = 39 ∨ q = 34) (h : 93 ≤ c.toNat) : ordB q c := by
  refine ⟨?_, ?_, ?_, ?_⟩
  · rintro rfl
    rcases hq with rfl | rfl <;> exact absurd h (by decide)
  · rintro rfl; exact absurd h (by decide)
  · rintro rfl; exact absurd h (by decide)
  · rintro rfl; exact absurd h (by decide)
theorem ord_hex {q c : UInt8} (hq : q = 39 ∨ q = 34) (h : 0 ≤ hexD c) : ordB q c := by
  unfold hexD at h
  have h3 : 48 ≤ c.toNat ∧ c.toNat ≠ 92 := by
    split at h
    · omega
    · split at h
      · omega
      · split at h
        · omega
        · omega
  refine ⟨?_, ?_, ?_, ?_⟩
  · rintro rfl
    rcases hq with rfl | rfl <;> exact absurd h3.1 (by decide)
  · rintro rfl; exact absurd h3.1 (by decide)
  · rintro rfl; exact absurd h3.1 (by decide)
  · rintro rfl; exact absurd h3.2 (by decide)
/-- the bytes of a character but the first, which may be any. -/
theorem nx_bytes {c : UInt8} {l : List UInt8} {n : Nat} (h : (nx (c :: l)).2 = (n : Int)) : (c.toNat < 128 ∧ n = 1 ∧ (nx (c :: l)).1 = ((c.toNat : Nat) : Int)) ∨ (128 ≤ c.toNat ∧ 128 ≤ (nx (c :: l)).1 ∧ ∀ i, i < n → ∃ d, (c :: l)[i]? = some d ∧ 128 ≤ d.toNat) := by
  by_cases h1 : c.toNat < 128
  · left
    rw [nx_ascii c l h1] at h ⊢
    exact ⟨h1, by omega, rfl⟩
  · right
    have hn : ¬ (nx (c :: l)).2 < 0 := by omega
    unfold nx at h ⊢
    by_cases e : (Lib.decodeGo ⟨(c :: l).toArray⟩).1 = 65533 ∧ (Lib.decodeGo ⟨(c :: l).toArray⟩).2 = 1
    · simp only [if_pos e] at h
      omega
    · simp only [if_neg e] at h
      have hs : 0 < (⟨(c :: l).toArray⟩ : ByteArray).size := by show 0 < (c :: l).length; simp
      have hd : Lib.decodeGo ⟨(c :: l).toArray⟩ = Utf8.decode ⟨(c :: l).toArray⟩ 0 := by
        unfold Lib.decodeGo
        rw [if_neg (by omega)]
      simp only [if_neg e]
      rw [hd] at h ⊢
      obtain ⟨_, _, h3, h4⟩ := decode_wide ⟨(c :: l).toArray⟩ 0 hs (by show 128 ≤ c.toNat; omega)
      refine ⟨by omega, by omega, fun i hi => ?_⟩
      obtain ⟨hj, h5⟩ := h4 i (by omega)
      have hlen : i < (c :: l).length := by
        have : 0 + i < (c :: l).length := hj
        omega
      refine ⟨(c :: l)[i], List.getElem?_eq_getElem hlen, ?_⟩
      have e2 : (⟨(c :: l).toArray⟩ : ByteArray)[0 + i]'hj = (c :: l)[i] := by
        simp only [Nat.zero_add]
        rfl
      rw [← e2]
      exact h5
theorem digN_hex : ∀ (m : Nat) (l : List UInt8), (digN m l).1 = true → (digN m l).2 = m ∧ m ≤ l.length ∧ ∀ i, i < m → ∃ d, l[i]? = some d ∧ 0 ≤ hexD d
  | 0, l, _ => ⟨rfl, Nat.zero_le _, fun i hi => absurd hi (by omega)⟩
  | m + 1, [], h => by cases h
  | m + 1, c :: l, h => by
    rw [digN] at h ⊢
    split at h
    · rename_i hc
      rw [if_pos hc]
      obtain ⟨h1, h2, h3⟩ := digN_hex m l h
      refine ⟨by simp only [up]; omega, by simp only [List.length_cons]; omega, fun i hi => ?_⟩
      cases i with
      | zero => exact ⟨c, rfl, hc⟩
      | succ i => exact h3 i (by omega)
    · cases h
theorem brcN_hex : ∀ (l : List UInt8) (x : Int) (f : Bool), (brcN x f l).1 = true → ∀ i, i < (brcN x f l).2 → ∃ d, l[i]? = some d ∧ (0 ≤ hexD d ∨ d = 125)
  | [], _, _, h => by cases h
  | c :: l, x, f, h => by
    intro i hi
    rw [brcN] at h hi
    split at h
    · rename_i hc
      rw [if_pos hc] at hi
      cases i with
      | zero => exact ⟨c, rfl, .inl hc⟩
      | succ i => exact brcN_hex l _ _ h i (by simp only [up] at hi; omega)
    · rename_i hc
      rw [if_neg hc] at hi
      split at h
      · cases h
      · rename_i h2
        rw [if_neg h2] at hi
        have : i = 0 := by omega
        subst this
        exact ⟨c, rfl, .inr (Decidable.byContradiction fun h => h2 (.inl h))⟩
theorem pre13 (c : UInt8) (l : List UInt8) : Lib.hasPrefix (c :: l) [13, 10] = ((13 : UInt8) == c && Lib.hasPrefix l [10]) := rfl
theorem esc_sc {q : UInt8} (hq : q = 39 ∨ q = 34) (l : List UInt8) (k : Nat) (h : escS (92 :: l) = (true, k)) : sc q (92 :: l) = k + sc q ((92 :: l).drop k) := by
  have hq92 : ¬ ((92 : UInt8) = q ∨ (92 : UInt8) = 10 ∨ (92 : UInt8) = 13) := by
    rintro (h | h | h)
    · rcases hq with rfl | rfl <;> exact absurd h (by decide)
    · exact absurd h (by decide)
    · exact absurd h (by decide)
  rw [sc_step, if_neg hq92, if_pos rfl]
  unfold escS at h
  simp only [List.drop_succ_cons, List.drop_zero] at h
  by_cases hn0 : (nx l).2 ≤ 0
  · rw [if_pos hn0] at h; cases h
  · rw [if_neg hn0] at h
    obtain ⟨n, hn, hnl, _, hne⟩ := nx_pos (l := l) (by omega)
    cases l with
    | nil => exact absurd (show (nx []).2 ≤ 0 by decide) hn0
    | cons b r =>
      have hb := nx_bytes hn
      have hone : (nx (b :: r)).1 < 128 → b.toNat < 128 ∧ n = 1 ∧ (nx (b :: r)).1 = ((b.toNat : Nat) : Int) := fun hc => by
        rcases hb with hb | ⟨_, hb, _⟩
        · exact hb
        · omega
      by_cases h19 : 49 ≤ (nx (b :: r)).1 ∧ (nx (b :: r)).1 ≤ 57
      · rw [if_pos h19] at h; cases h
      · rw [if_neg h19] at h
        by_cases h48 : (nx (b :: r)).1 = 48
        · rw [if_pos h48] at h
          obtain ⟨_, _, hb1⟩ := hone (by omega)
          split at h
          · cases h
          · cases h
            rw [pre13, show ((13 : UInt8) == b) = false by rw [beq_eq_false_iff_ne]; rintro rfl; have h13 : (13 : UInt8).toNat = 13 := rfl; omega]
            rfl
        · rw [if_neg h48] at h
          by_cases h120 : (nx (b :: r)).1 = 120
          · rw [if_pos h120] at h
            obtain ⟨_, _, hb1⟩ := hone (by omega)
            have hd1 : (digN 2 (List.drop 1 (b :: r))).1 = true := congrArg Prod.fst h
            obtain ⟨h1, h2, h3⟩ := digN_hex 2 _ hd1
            have hk : 2 + (digN 2 (List.drop 1 (b :: r))).2 = k := congrArg Prod.snd h
            rw [h1] at hk
            subst hk
            rw [pre13, show ((13 : UInt8) == b) = false by rw [beq_eq_false_iff_ne]; rintro rfl; have h13 : (13 : UInt8).toNat = 13 := rfl; omega]
            simp only [List.drop_succ_cons, List.drop_zero, Bool.false_and, Bool.false_eq_true, if_false] at h2 h3 ⊢
            rw [sc_ord q 2 r h2 (fun i hi => by obtain ⟨d, k1, k2⟩ := h3 i hi; exact ⟨d, k1, ord_hex hq k2⟩)]
            omega
          · rw [if_neg h120] at h
            by_cases h117 : (nx (b :: r)).1 = 117
            · rw [if_pos h117] at h
              obtain ⟨_, _, hb1⟩ := hone (by omega)
              rw [pre13, show ((13 : UInt8) == b) = false by rw [beq_eq_false_iff_ne]; rintro rfl; have h13 : (13 : UInt8).toNat = 13 := rfl; omega]
              simp only [List.drop_succ_cons, List.drop_zero, Bool.false_and, Bool.false_eq_true, if_false] at h ⊢
              split at h
              · rename_i hbr
                have hd1 : (brcN 0 true (List.drop 1 r)).1 = true := congrArg Prod.fst h
                have hk : 3 + (brcN 0 true (List.drop 1 r)).2 = k := congrArg Prod.snd h
                have hle := brcN_le (List.drop 1 r) 0 true
                have hhex := brcN_hex _ _ _ hd1
                cases r with
                | nil => cases hbr
                | cons a r2 =>
                  have ha : ((123 : UInt8) == a && true) = true := hbr
                  rw [Bool.and_true] at ha
                  have ha2 := eq_of_beq ha
                  subst ha2
                  simp only [List.drop_succ_cons, List.drop_zero] at hk hle hhex
                  subst hk
                  rw [sc_ord q (1 + (brcN 0 true r2).2) (123 :: r2) (by simp only [List.length_cons]; omega) (fun i hi => by
                    cases i with
                    | zero => exact ⟨123, rfl, ord_high hq (by decide)⟩
                    | succ i =>
                      obtain ⟨d, k1, k2⟩ := hhex i (by omega)
                      refine ⟨d, by simpa using k1, ?_⟩
                      rcases k2 with k2 | k2
                      · exact ord_hex hq k2
                      · subst k2; exact ord_high hq (by decide))]
                  rw [show 3 + (brcN 0 true r2).2 = (1 + (brcN 0 true r2).2) + 1 + 1 by omega, List.drop_succ_cons, List.drop_succ_cons]
                  omega
              · have hd1 : (digN 4 r).1 = true := congrArg Prod.fst h
                obtain ⟨h1, h2, h3⟩ := digN_hex 4 _ hd1
                have hk : 2 + (digN 4 r).2 = k := congrArg Prod.snd h
                rw [h1] at hk
                subst hk
                rw [sc_ord q 4 r h2 (fun i hi => by obtain ⟨d, k1, k2⟩ := h3 i hi; exact ⟨d, k1, ord_hex hq k2⟩)]
                rw [show (2 + 4 : Nat) = 4 + 1 + 1 from rfl, List.drop_succ_cons, List.drop_succ_cons]
                omega
            · rw [if_neg h117] at h
              simp only [List.drop_succ_cons, List.drop_zero] at h ⊢
              by_cases hcr : (nx (b :: r)).1 = 13 ∧ Lib.hasPrefix r [10] = true
              · rw [if_pos hcr] at h
                cases h
                obtain ⟨_, _, hb1⟩ := hone (by omega)
                have hb13 : b = 13 := UInt8.toNat.inj (by rw [show b.toNat = 13 by omega]; rfl)
                subst hb13
                rw [pre13, hcr.2]
                rfl
              · rw [if_neg hcr] at h
                cases h
                have hnp : Lib.hasPrefix (b :: r) [13, 10] = false := by
                  rw [pre13]
                  by_cases hb13 : b = 13
                  · subst hb13
                    have hc : (nx ((13 : UInt8) :: r)).1 = 13 := by rw [nx_ascii 13 r (by decide)]; rfl
                    cases hp : Lib.hasPrefix r [10] with
                    | false => rfl
                    | true => exact absurd ⟨hc, hp⟩ hcr
                  · rw [show ((13 : UInt8) == b) = false by rw [beq_eq_false_iff_ne]; exact fun e => hb13 e.symm]
                    rfl
                rw [hnp, hn, Int.toNat_natCast]
                simp only [Bool.false_eq_true, if_false]
                have hn1 : 1 ≤ n := by omega
                simp only [List.length_cons] at hnl
                rw [sc_ord q (n - 1) r (by omega) (fun i hi => by
                  rcases hb with ⟨_, hb, _⟩ | ⟨_, _, hb⟩
                  · omega
                  · obtain ⟨d, k1, k2⟩ := hb (i + 1) (by omega)
                    exact ⟨d, by simpa using k1, ord_high hq (by omega)⟩)]
                rw [show 1 + n = (n - 1) + 1 + 1 by omega, List.drop_succ_cons, List.drop_succ_cons]
                omega
theorem prtF_sc {q : UInt8} (hq : q = 39 ∨ q = 34) : ∀ (f : Nat) (l : List UInt8) (m : Nat), l.length ≤ f → prtF f q l = (true, m) → m < l.length → sc q l = m ∧ l[m]? = some q
  | 0, l, m, h, _, hm => by omega
  | f + 1, [], m, _, _, hm => absurd hm (by simp)
  | f + 1, c :: l, m, hf, h, hm => by
    rw [prtF] at h
    simp only [List.length_cons] at hf
    by_cases hc : c = q
    · rw [if_pos hc] at h
      cases h
      subst hc
      exact ⟨by rw [sc_step, if_pos (.inl rfl)], rfl⟩
    · rw [if_neg hc] at h
      by_cases hbad : (nx (c :: l)).2 < 0 ∨ (nx (c :: l)).1 = 10 ∨ (nx (c :: l)).1 = 13
      · rw [if_pos hbad] at h; cases h
      · rw [if_neg hbad] at h
        obtain ⟨n, hn, hnl, hn0⟩ := nx_cons_pos (fun h => hbad (.inl h))
        have hb := nx_bytes hn
        by_cases h92 : (nx (c :: l)).1 = 92
        · rw [if_pos h92] at h
          have hc92 : c = 92 := by
            rcases hb with ⟨_, _, hb⟩ | ⟨_, hb, _⟩
            · exact UInt8.toNat.inj (by rw [show c.toNat = 92 by omega]; rfl)
            · omega
          subst hc92
          split at h
          · rename_i he
            have hel := escS_le (l := 92 :: l) (by simp)
            obtain ⟨k, hk⟩ : ∃ k, escS (92 :: l) = (true, k) := ⟨(escS (92 :: l)).2, by rw [← he]⟩
            rw [hk] at h hel
            simp only [List.length_cons] at hel hm
            have h1 : (prtF f q ((92 :: l).drop k)).1 = true := congrArg Prod.fst h
            have h2 : k + (prtF f q ((92 :: l).drop k)).2 = m := congrArg Prod.snd h
            obtain ⟨h3, h4⟩ := prtF_sc hq f ((92 :: l).drop k) (prtF f q ((92 :: l).drop k)).2 (by rw [List.length_drop, List.length_cons]; omega) (by rw [← h1]) (by rw [List.length_drop, List.length_cons]; omega)
            refine ⟨by rw [esc_sc hq l k hk, h3]; exact h2, ?_⟩
            rw [← h2, ← List.getElem?_drop]
            exact h4
          · rename_i he
            rw [h] at he
            exact absurd rfl he
        · rw [if_neg h92] at h
          rw [hn, Int.toNat_natCast] at h
          simp only [List.length_cons] at hm
          have h1 : (prtF f q ((c :: l).drop n)).1 = true := congrArg Prod.fst h
          have h2 : n + (prtF f q ((c :: l).drop n)).2 = m := congrArg Prod.snd h
          have hord : ∀ i, i < n → ∃ d, (c :: l)[i]? = some d ∧ ordB q d := by
            intro i hi
            rcases hb with ⟨hb1, hb2, hb3⟩ | ⟨_, _, hb⟩
            · have : i = 0 := by omega
              subst this
              refine ⟨c, rfl, hc, ?_, ?_, ?_⟩
              · rintro rfl; exact hbad (.inr (.inl hb3))
              · rintro rfl; exact hbad (.inr (.inr hb3))
              · rintro rfl; exact h92 hb3
            · obtain ⟨d, k1, k2⟩ := hb i hi
              exact ⟨d, k1, ord_high hq (by omega)⟩
          obtain ⟨h3, h4⟩ := prtF_sc hq f ((c :: l).drop n) (prtF f q ((c :: l).drop n)).2 (by rw [List.length_drop, List.length_cons]; omega) (by rw [← h1]) (by rw [List.length_drop, List.length_cons]; omega)
          refine ⟨by rw [sc_ord q n (c :: l) (by simpa using hnl) hord, h3]; exact h2, ?_⟩
          rw [← h2, ← List.getElem?_drop]
          exact h4
theorem str_whole {l : List UInt8} (h : (strC l).1 = true) : txtL l = l.length ∧ ∃ q t, l = q :: t ∧ (q = 39 ∨ q = 34) := by
  cases l with
  | nil => cases h
  | cons q t =>
    rw [strC] at h
    split at h
    · cases h
    · rename_i hqq
      have hq : q = 39 ∨ q = 34 := by
        by_cases h1 : q = 39
        · exact .inl h1
        · by_cases h2 : q = 34
          · exact .inr h2
          · exact absurd ⟨h1, h2⟩ hqq
      split at h
      · cases h
      · rename_i h1
        split at h
        · rename_i h2
          have h3 : (prt q t).1 = true := by cases hp : (prt q t).1 with | true => rfl | false => exact absurd hp h1
          obtain ⟨h4, h5⟩ := prtF_sc hq t.length t (prt q t).2 (Nat.le_refl _) (by show prt q t = _; rw [← h3]) (by omega)
          refine ⟨?_, q, t, rfl, hq⟩
          rw [txtL, if_pos, h4, List.length_cons]
          · omega
          · refine ⟨by omega, ?_⟩
            rw [h4, List.head?_drop]
            exact h5
        · cases h
theorem plain_str {goal : Int} {l : List UInt8} {n : Nat} (h : plainT goal l = .fine 4 n) : n = txtL l ∧ (strC (l.take (txtL l))).1 = true := by
  unfold plainT at h
  split at h
  · cases h
  · split at h
    · have := tpTk_kind h; omega
    · split at h
      · unfold priv at h
        split at h
        · cases h
        · split at h
          · cases h
          · have := (aft_fine_inv h).1; omega
      · split at h
        · unfold numT at h
          split at h
          · cases h
          · have := (aft_fine_inv h).1; omega
        · split at h
          · exact (txt_kind2 h).2
          · split at h
            · have := rgTk_kind h; omega
            · split at h
              · have := (aft_fine_inv h).1; omega
              · split at h
                · cases h
                · cases h
theorem only_str (s : ByteArray) : onlyB s 2 4 = (strC s.data.toList).1 := by
  rw [Bool.eq_iff_iff]
  constructor
  · intro h
    unfold onlyB at h
    cases hO : nxt s 0 2 with
    | bad place code => rw [hO] at h; cases h
    | fine k q n line cs =>
      rw [hO] at h
      obtain ⟨rfl, rfl, rfl, rfl⟩ := of_decide_eq_true h
      rw [nxt_ok (by omega), if_neg (by omega)] at hO
      cases hb : btw s 0 false with
      | bad place code => rw [hb] at hO; cases hO
      | fine q line' cs' =>
        rw [hb] at hO
        simp only at hO
        cases ht : tokT 2 (s.data.toList.drop q) with
        | bad off code => rw [ht] at hO; cases hO
        | fine kd m =>
          rw [ht] at hO
          cases hO
          rw [List.drop_zero] at ht
          unfold tokT at ht
          rw [if_neg (by omega), if_neg (by omega), if_neg (by omega)] at ht
          obtain ⟨h1, h2⟩ := plain_str ht
          rw [← h1, List.take_of_length_le (by rw [ofl]; exact Nat.le_refl _)] at h2
          exact h2
  · intro h
    obtain ⟨h1, q, t, hl, hq⟩ := str_whole h
    have hqr : 33 ≤ q.toNat ∧ q.toNat < 46 ∧ q ≠ 35 := by rcases hq with rfl | rfl <;> decide
    have hne : ∀ a : UInt8, a.toNat = 35 ∨ 46 ≤ a.toNat → q ≠ a := by
      rintro a ha rfl
      rcases ha with ha | ha
      · exact hqr.2.2 (UInt8.toNat.inj ha)
      · omega
    have hlen : (q :: t).length = s.size := by rw [← hl, ofl]
    rw [hl, hlen] at h1
    have hpl : plainT 2 (q :: t) = .fine 4 s.size := by
      unfold plainT
      rw [if_neg (by simp), if_neg (by rw [pre_head (hne 96 (by decide))]; decide), if_neg (by rw [pre_head (hne 35 (by decide))]; decide), if_neg, if_pos]
      · unfold txt
        rw [h1, List.take_of_length_le (by omega), if_pos (by rw [← hl]; exact h)]
      · rcases hq with rfl | rfl
        · exact .inl rfl
        · exact .inr rfl
      · rintro (hd | ⟨hd, _⟩)
        · have := of_decide_eq_true hd
          omega
        · rw [pre_head (hne 46 (by decide))] at hd
          cases hd
    unfold onlyB
    rw [nxt_low s 2 (.inr rfl) q t hl hqr.1 (by omega) (hne 47 (by decide)) (hne 35 (by decide)), hpl]
    exact decide_eq_true ⟨rfl, rfl, rfl, rfl⟩
set_option maxRecDepth 20000 in
set_option maxHeartbeats 1000000 in
theorem strings_any (s : ByteArray) (w : World) (hs : s.size ≤ 16777216) (hX : Lx w) :
    Calls Tryd.prog 7 #[.string s] w fun e w' => e = .returned (.bool true) ∧ Below w.heap.size w w' := by
  have hA := lawake_any w hX
  have hC := fun W h => scheck_any s W hs h
  have hO := fun W h => only_any s 2 4 W hs h
  rw [only_str s] at hO
  generalize strC s.data.toList = o at *
  obtain ⟨r, a⟩ := o
  simp only at hC hO
  have HA := Lib.hid hA
  have HX := Lib.hid hX
  cases r with
  | true =>
    simp only [if_true] at hC
    have HC := Lib.hid hC
    have HO := Lib.hid hO
    clear hA hC hO hX
    go_enter Tryd.func7, Tryd.ntmps7
    go_upto_region 3 with (go_at_call 13; refine HA.out.mono ?_; rintro e w1 ⟨rfl, hb1⟩)
    go_upto_region 4 with (go_at_call 16; refine (HC.out _ (HX.out.bel hb1).tabs).mono ?_; rintro e w2 ⟨rfl, hb2⟩)
    go_wp2_with (first | (go_at_call 17; refine (HO.out _ ((HX.out.bel hb1).bel hb2)).mono ?_; rintro e w3 ⟨rfl, hb3⟩) | (go_at_call 15; refine (lnum_any _ _).mono ?_; rintro e w' ⟨rfl, rfl⟩))
    go_ret
    exact ⟨rfl, bel_next (bel_next hb1 hb2) hb3⟩
  | false =>
    simp only [Bool.false_eq_true, if_false] at hC
    have HC := Lib.hid hC
    have HO := Lib.hid hO
    clear hA hC hO hX
    go_enter Tryd.func7, Tryd.ntmps7
    go_upto_region 3 with (go_at_call 13; refine HA.out.mono ?_; rintro e w1 ⟨rfl, hb1⟩)
    go_upto_region 4 with (go_at_call 16; refine (HC.out _ (HX.out.bel hb1).tabs).mono ?_; rintro e w2 ⟨rfl, hb2⟩)
    go_wp2_with (first | (go_at_call 17; refine (HO.out _ ((HX.out.bel hb1).bel hb2)).mono ?_; rintro e w3 ⟨rfl, hb3⟩) | (go_at_call 15; refine (lnum_any _ _).mono ?_; rintro e w' ⟨rfl, rfl⟩))
    go_ret
    exact ⟨rfl, bel_next (bel_next hb1 hb2) hb3⟩
end Go.Proofs.YtdkkfbakggbaeaaDoor
namespace Go.Proofs.YtdkkfbakggbaeaaDoor
open Go.RowKit

/-- a row of ints, as an argument. -/
def IntsArg (w : World) (ao : Option Addr) (len : Nat) : Prop := ∀ j, j < len → ∃ b off, ao = some ⟨b, off, none⟩ ∧ b < w.heap.size ∧ ∃ z : Int, w.cell? ⟨b, off + j, none⟩ = some (.int .i64 z)
theorem below_alloc2' {a w : World} (h : Below a.heap.size a w) (o : Obj) : Below a.heap.size a (w.alloc o) := Below.alloc h h.size o
theorem CmsIn.len {s : ByteArray} {q : Nat} : ∀ (cs : List Cm) {p : Nat}, CmsIn s p q cs → p + cs.length ≤ q
  | [], _, h => h
  | c :: cs, p, h => by
    obtain ⟨f, t, _, _, h1, h2, _, h3⟩ := h
    have := CmsIn.len cs h3
    simp only [List.length_cons]
    omega
theorem list_ne {a b : ByteArray} (h : a ≠ b) : (a.toList == b.toList) = false := by
  rw [beq_eq_false_iff_ne]
  intro e
  rw [Lib.toList_data, Lib.toList_data] at e
  exact h (ba_ext e)
/-- Next, whatever it answers. -/
theorem next_gen (s : ByteArray) (p : Nat) (goal : Int) (W : World) (hs : s.size ≤ 16777216) (hp : p ≤ s.size) (h : Lx W) (z : Int) (hz : z = p) :
    Calls Tryd.prog 14 #[.string s, .int .i64 z, .int .i64 goal] W fun e w' => ∃ kind text from' till line vp n cap place code, e = .returned (.tuple #[.agg #[.int .i64 kind, .string text, .int .i64 from', .int .i64 till, .bool line], .slice vp n cap, .int .i64 place, .int .i64 code]) ∧ Below W.heap.size W w' := by
  have hN := Next_any s p goal W hs hp h z hz
  cases hO : nxt s p goal with
  | bad place code =>
    rw [hO] at hN
    refine hN.mono fun e w' => ?_
    rintro ⟨rfl, hb⟩
    exact ⟨_, _, _, _, _, _, _, _, _, _, rfl, hb⟩
  | fine kind q n line cs =>
    rw [hO] at hN
    refine hN.mono fun e w' => ?_
    rintro ⟨v, rfl, ho, hb⟩
    obtain ⟨vp, cap, rfl⟩ := ho.form
    exact ⟨_, _, _, _, _, _, _, _, _, _, rfl, hb⟩
theorem next_of (S : ByteArray) (p : Nat) (kind : Int) (q n : Nat) (W : World) (hs : S.size ≤ 16777216) (hp : p ≤ S.size) (h : Lx W) (hO : nxt S p 1 = .fine kind q n false []) (z : Int) (hz : z = p) (T : ByteArray) (hT : S.extract q (q + n) = T) (fz tz : Int) (hf : fz = q) (ht : tz = (q : Int) + (n : Int)) :
    Calls Tryd.prog 14 #[.string S, .int .i64 z, .int .i64 1] W fun e w' => (∃ vp cap, e = .returned (.tuple #[.agg #[.int .i64 kind, .string T, .int .i64 fz, .int .i64 tz, .bool false], .slice vp 0 cap, .int .i64 0, .int .i64 0])) ∧ Below W.heap.size W w' := by
  have hN := Next_any S p 1 W hs hp h z hz
  rw [hO] at hN
  refine hN.mono fun e w' => ?_
  rintro ⟨v, rfl, ho, hb⟩
  obtain ⟨vp, cap, rfl⟩ := ho.form
  refine ⟨⟨vp, cap, ?_⟩, hb⟩
  simp only [Tk.val, Tk.cells]
  rw [hT, hf, ht]
  rfl
end Go.Proofs.YtdkkfbakggbaeaaDoor
