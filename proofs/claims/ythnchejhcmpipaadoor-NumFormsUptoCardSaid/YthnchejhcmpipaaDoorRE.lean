/- Contract of the reference's Of: what it answers is what package num's read gives. Condition: at most 2^24 bytes. -/
import Derived.Test.YthnchejhcmpipaaDoorRB
import Derived.Test.YthnchejhcmpipaaDoorRD
namespace Go.Proofs.YthnchejhcmpipaaDoor
open Go.RowKit

theorem refOk_dec {s : ByteArray} {P : Lit} {f : Bool} (hno : isOth s = false) (h : readB s = (P, f)) (hb : P.base = 10) : RefOk s P f := by
  refine ⟨by rw [h], fun _ => ?_⟩
  rw [h]
  unfold baseOf
  rw [hno, if_neg (by decide)]
  cases P
  simp only at hb
  subst hb
  rfl
theorem eq_size {s : ByteArray} {j : Nat} (h : j ≤ s.size) : (((j : Nat) : Int) == (s.size : Int)) = (s.data.toList.drop j).isEmpty := by
  by_cases e : j = s.size
  · subst e
    rw [drop_all, beq_self_eq_true]
    rfl
  · have e2 : ((j : Int) == (s.size : Int)) = false := by rw [beq_eq_false_iff_ne]; omega
    rw [e2, drop_cons s j (by omega)]
    rfl
theorem ext_mk (s : ByteArray) (i k : Nat) : s.extract i (i + k) = mkB ((s.data.toList.drop i).take k) := mkB_of (by rw [Lib.extract_data]; rw [show i + k - i = k by omega])
theorem exp_byte (c : UInt8) : (c.toNat ||| 32) = 101 ↔ c = 101 ∨ c = 69 := all_bytes (P := fun c => (c.toNat ||| 32) = 101 ↔ c = 101 ∨ c = 69) (by decide +kernel) c
theorem oth_letter (c : UInt8) : (((c.toNat ||| 32) = 120 ∨ (c.toNat ||| 32) = 111 ∨ (c.toNat ||| 32) = 98) ∧ 65 ≤ c.toNat) ↔ c = 120 ∨ c = 88 ∨ c = 111 ∨ c = 79 ∨ c = 98 ∨ c = 66 := all_bytes (P := fun c => (((c.toNat ||| 32) = 120 ∨ (c.toNat ||| 32) = 111 ∨ (c.toNat ||| 32) = 98) ∧ 65 ≤ c.toNat) ↔ c = 120 ∨ c = 88 ∨ c = 111 ∨ c = 79 ∨ c = 98 ∨ c = 66) (by decide +kernel) c
/-- the point and what follows it. -/
structure PhE (s : ByteArray) (n j : Nat) (pt : Bool) (F : ByteArray) : Prop where
  dec : DecS s (s.extract 0 n) (s.data.toList.drop n) pt F (s.data.toList.drop j)
  le : j ≤ s.size
  yes : pt = true → 0 < n ∨ F.size ≠ 0
  no : pt = false → j = n ∧ F = emp ∧ (0 < n → ∀ t, s.data.toList.drop n ≠ 110 :: t)
theorem phE_no {s : ByteArray} {n : Nat} (hno : isOth s = false) (hn : n ≤ s.size) (hw : wholeO s = (s.extract 0 n, mkB (s.data.toList.drop n))) (h46 : ∀ t, s.data.toList.drop n ≠ 46 :: t) (h110 : 0 < n → ∀ t, s.data.toList.drop n ≠ 110 :: t) : PhE s n n false emp :=
  ⟨⟨hno, hw, partO_none h46⟩, hn, fun h => by (cases h), fun _ => ⟨rfl, rfl, h110⟩⟩
theorem phE_yes {s : ByteArray} {n : Nat} (hno : isOth s = false) (hn : n < s.size) (hw : wholeO s = (s.extract 0 n, mkB (s.data.toList.drop n))) (h46 : s[n] = 46) (hz : ¬ (n = 0 ∧ runN 0 false (s.data.toList.drop (n + 1)) = 0)) : PhE s n (n + 1 + runN 0 false (s.data.toList.drop (n + 1))) true (s.extract (n + 1) (n + 1 + runN 0 false (s.data.toList.drop (n + 1)))) := by
  have hd := drop_cons s n hn
  rw [h46] at hd
  have hle := runN_le 0 false (s.data.toList.drop (n + 1))
  rw [List.length_drop, ofl] at hle
  refine ⟨⟨hno, hw, ?_⟩, by omega, fun _ => ?_, fun h => by (cases h)⟩
  · rw [hd, partO_some, ext_mk, List.drop_drop]
  · by_cases h0 : 0 < n
    · exact .inl h0
    · right
      rw [ByteArray.size_extract]
      omega
theorem phE_full {s F : ByteArray} {n j : Nat} {pt : Bool} (h : PhE s n j pt F) (hn : n ≤ s.size) (h0 : ¬ (n = 0 ∧ pt = false)) : (s.extract 0 n).size ≠ 0 ∨ F.size ≠ 0 := by
  rw [ByteArray.size_extract]
  cases hp : pt with
  | true => rcases h.yes hp with h | h
            · left; omega
            · exact .inr h
  | false => left; have hn0 : n ≠ 0 := fun e => h0 ⟨e, hp⟩; omega
/-- no exponent stands there. -/
theorem phE_noexp {s F : ByteArray} {n j : Nat} {pt : Bool} (h : PhE s n j pt F) (hno : isOth s = false) (hn : n ≤ s.size) (h0 : ¬ (n = 0 ∧ pt = false)) (he : ∀ hj : j < s.size, ¬ (s[j] = 101 ∨ s[j] = 69)) : RefOk s ⟨10, s.extract 0 n, pt, F, false, false, emp, false⟩ (((j : Nat) : Int) == (s.size : Int)) := by
  rw [eq_size h.le]
  refine refOk_dec hno (dec_noexp h.dec (phE_full h hn h0) fun c t e => ?_) rfl
  by_cases hj : j < s.size
  · have hd := drop_cons s j hj
    rw [e] at hd
    have hc : c = s[j] := (List.cons.inj hd).1
    refine ⟨?_, fun hp => ?_⟩
    · rw [hc, Ne, exp_byte]; exact he hj
    · obtain ⟨h1, _, h3⟩ := h.no hp
      rintro rfl
      rw [h1] at e
      exact h3 (by have hn0 : n ≠ 0 := fun e => h0 ⟨e, hp⟩; omega) t e
  · rw [List.drop_of_length_le (by rw [ofl]; omega)] at e
    cases e
/-- the exponent's sign. -/
def PhS (s : ByteArray) (j i : Nat) (m : Bool) : Prop := i ≤ s.size ∧ signO (mkB (s.data.toList.drop (j + 1))) = (m, mkB (s.data.toList.drop i))
theorem phS_no {s : ByteArray} {j : Nat} (hj : j < s.size) (h : ∀ h1 : j + 1 < s.size, s[j + 1] ≠ 43 ∧ s[j + 1] ≠ 45) : PhS s j (j + 1) false := by
  refine ⟨by omega, signO_not ?_ ?_⟩
  all_goals
    intro u e
    by_cases h1 : j + 1 < s.size
    · have hd := drop_cons s (j + 1) h1
      rw [e] at hd
      have hc := (List.cons.inj hd).1
      first | exact (h h1).1 hc.symm | exact (h h1).2 hc.symm
    · rw [List.drop_of_length_le (by rw [ofl]; omega)] at e
      cases e
theorem phS_plus {s : ByteArray} {j : Nat} (h1 : j + 1 < s.size) (h : s[j + 1] = 43) : PhS s j (j + 2) false := by
  refine ⟨by omega, ?_⟩
  rw [drop_cons s (j + 1) h1, h]
  exact signO_plus _
theorem phS_minus {s : ByteArray} {j : Nat} (h1 : j + 1 < s.size) (h : s[j + 1] = 45) : PhS s j (j + 2) true := by
  refine ⟨by omega, ?_⟩
  rw [drop_cons s (j + 1) h1, h]
  exact signO_minus _
theorem phH_bad {s F : ByteArray} {n j i : Nat} {pt m : Bool} (h : PhE s n j pt F) (hn : n ≤ s.size) (h0 : ¬ (n = 0 ∧ pt = false)) (hj : j < s.size) (he : s[j] = 101 ∨ s[j] = 69) (hS : PhS s j i m) (hr : runZ 0 (s.data.toList.drop i) < 1 ∨ 9 < (Lib.trimLeftB (plainL ((s.data.toList.drop i).take (runN 0 false (s.data.toList.drop i)))) 48).length) : (readB s).2 = false := by
  have hd := h.dec
  rw [drop_cons s j hj] at hd
  exact dec_badexp hd (phE_full h hn h0) ((exp_byte _).2 he) hS.2 hr
theorem phH_good {s F : ByteArray} {n j i : Nat} {pt m : Bool} (h : PhE s n j pt F) (hno : isOth s = false) (hn : n ≤ s.size) (h0 : ¬ (n = 0 ∧ pt = false)) (hj : j < s.size) (he : s[j] = 101 ∨ s[j] = 69) (hS : PhS s j i m) (hr : 1 ≤ runZ 0 (s.data.toList.drop i)) (h9 : ¬ 9 < (Lib.trimLeftB (plainL ((s.data.toList.drop i).take (runN 0 false (s.data.toList.drop i)))) 48).length) :
    RefOk s ⟨10, s.extract 0 n, pt, F, true, m, s.extract i (i + runN 0 false (s.data.toList.drop i)), false⟩ (((i : Nat) : Int) + (runN 0 false (s.data.toList.drop i) : Nat) == (s.size : Int)) := by
  have hd := h.dec
  rw [drop_cons s j hj] at hd
  have hle := runN_le 0 false (s.data.toList.drop i)
  rw [List.length_drop, ofl] at hle
  have hi := hS.1
  have e1 := eq_size (s := s) (j := i + runN 0 false (s.data.toList.drop i)) (by omega)
  rw [Int.natCast_add] at e1
  rw [e1, ext_mk, ← List.drop_drop]
  exact refOk_dec hno (dec_exp hd (phE_full h hn h0) ((exp_byte _).2 he) hS.2 hr h9) rfl

set_option maxRecDepth 100000 in
set_option maxHeartbeats 2000000 in
/-- nought and a base's letter. -/
theorem of_pre (s : ByteArray) (c1 : UInt8) (r : List UInt8) (w : World) (hss : s.data.toList = 48 :: c1 :: r) (hc : c1 = 120 ∨ c1 = 88 ∨ c1 = 111 ∨ c1 = 79 ∨ c1 = 98 ∨ c1 = 66) (hs : s.size ≤ 16777216) :
    Calls Tryd.prog 26 #[.string s] w fun e w' => ∃ P ok, RefOk s P ok ∧ e = .returned (.tuple #[P.val, .bool ok]) ∧ Below w.heap.size w w' := by
  have hsz : s.size = r.length + 2 := by rw [← ofl, hss]; rfl
  have h0 : 0 < s.size := by omega
  have h1 : 1 < s.size := by omega
  have e0 : s[0] = 48 := by
    have := get_data s 0 h0
    rw [hss] at this
    exact (Option.some.inj this).symm
  have e1 : s[1] = c1 := by
    have := get_data s 1 h1
    rw [hss] at this
    exact (Option.some.inj this).symm
  have b0 : (((s[0].toNat : Nat) : Int) == 48) = true := eq_fact e0
  rcases hc with rfl | rfl | rfl | rfl | rfl | rfl
  · have HR := Lib.hid (fun W => radix_any s 16 120 120 r W base16ok rfl (by decide) (by decide) (by decide) hss hs)
    have hv : ((s[1].toNat : Nat) : Int) = 120 := by rw [e1]; rfl
    clear hss hsz e0 e1
    go_enter Tryd.func26, Tryd.ntmps26
    go_upto_region 1 with fail
    have hZ : ParAt (w.alloc (.cells litZ.cells 49)) w.heap.size litZ := heap_alloc_new _ _
    have hB : Below w.heap.size w (w.alloc (.cells litZ.cells 49)) := (Below.refl _ _).alloc (Nat.le_refl _) _
    have e0 : (w.alloc (.cells litZ.cells 49)) = w.alloc (.cells #[.int .i64 0, .string ⟨#[]⟩, .bool false, .string ⟨#[]⟩, .bool false, .bool false, .string ⟨#[]⟩, .bool false] 49) := rfl
    rw [e0] at hZ hB
    generalize w.alloc (.cells #[.int .i64 0, .string ⟨#[]⟩, .bool false, .string ⟨#[]⟩, .bool false, .bool false, .string ⟨#[]⟩, .bool false] 49) = w0 at *
    clear e0
    have HZ0 := Lib.hid hZ
    clear hZ
    go_wp2_with (go_at_call 50; refine (HR.out _).mono ?_; rintro e w1 ⟨P, ok, hO, rfl, hb1⟩; have HO := Lib.hid hO; clear hO; obtain ⟨base, whole, point, part, ex, minus, power, big⟩ := P; unfold Lit.val Lit.cells; have HZ := Lib.hid (HZ0.out.below hb1 HZ0.out.lt); obtain ⟨d0, d1, d2, d3, d4, d5, d6, d7, g0, g1, g2, g3, g4, g5, g6, g7⟩ := ParAt.facts HZ.out)
    (try simp only [Exit.inBlock, Exit.then])
    refine bodyPost_ret (results_par2 rfl _ _ _ _ rfl (ParAt.lay HZ.out)) rfl ?_
    exact ⟨_, _, HO.out, rfl, below_again (bel_next hB hb1) (Nat.le_refl _)⟩
  · have HR := Lib.hid (fun W => radix_any s 16 120 88 r W base16ok rfl (by decide) (by decide) (by decide) hss hs)
    have hv : ((s[1].toNat : Nat) : Int) = 88 := by rw [e1]; rfl
    clear hss hsz e0 e1
    go_enter Tryd.func26, Tryd.ntmps26
    go_upto_region 1 with fail
    have hZ : ParAt (w.alloc (.cells litZ.cells 49)) w.heap.size litZ := heap_alloc_new _ _
    have hB : Below w.heap.size w (w.alloc (.cells litZ.cells 49)) := (Below.refl _ _).alloc (Nat.le_refl _) _
    have e0 : (w.alloc (.cells litZ.cells 49)) = w.alloc (.cells #[.int .i64 0, .string ⟨#[]⟩, .bool false, .string ⟨#[]⟩, .bool false, .bool false, .string ⟨#[]⟩, .bool false] 49) := rfl
    rw [e0] at hZ hB
    generalize w.alloc (.cells #[.int .i64 0, .string ⟨#[]⟩, .bool false, .string ⟨#[]⟩, .bool false, .bool false, .string ⟨#[]⟩, .bool false] 49) = w0 at *
    clear e0
    have HZ0 := Lib.hid hZ
    clear hZ
    go_wp2_with (go_at_call 50; refine (HR.out _).mono ?_; rintro e w1 ⟨P, ok, hO, rfl, hb1⟩; have HO := Lib.hid hO; clear hO; obtain ⟨base, whole, point, part, ex, minus, power, big⟩ := P; unfold Lit.val Lit.cells; have HZ := Lib.hid (HZ0.out.below hb1 HZ0.out.lt); obtain ⟨d0, d1, d2, d3, d4, d5, d6, d7, g0, g1, g2, g3, g4, g5, g6, g7⟩ := ParAt.facts HZ.out)
    (try simp only [Exit.inBlock, Exit.then])
    refine bodyPost_ret (results_par2 rfl _ _ _ _ rfl (ParAt.lay HZ.out)) rfl ?_
    exact ⟨_, _, HO.out, rfl, below_again (bel_next hB hb1) (Nat.le_refl _)⟩
  · have HR := Lib.hid (fun W => radix_any s 8 111 111 r W base8ok rfl (by decide) (by decide) (by decide) hss hs)
    have hv : ((s[1].toNat : Nat) : Int) = 111 := by rw [e1]; rfl
    clear hss hsz e0 e1
    go_enter Tryd.func26, Tryd.ntmps26
    go_upto_region 1 with fail
    have hZ : ParAt (w.alloc (.cells litZ.cells 49)) w.heap.size litZ := heap_alloc_new _ _
    have hB : Below w.heap.size w (w.alloc (.cells litZ.cells 49)) := (Below.refl _ _).alloc (Nat.le_refl _) _
    have e0 : (w.alloc (.cells litZ.cells 49)) = w.alloc (.cells #[.int .i64 0, .string ⟨#[]⟩, .bool false, .string ⟨#[]⟩, .bool false, .bool false, .string ⟨#[]⟩, .bool false] 49) := rfl
    rw [e0] at hZ hB
    generalize w.alloc (.cells #[.int .i64 0, .string ⟨#[]⟩, .bool false, .string ⟨#[]⟩, .bool false, .bool false, .string ⟨#[]⟩, .bool false] 49) = w0 at *
    clear e0
    have HZ0 := Lib.hid hZ
    clear hZ
    go_wp2_with (go_at_call 50; refine (HR.out _).mono ?_; rintro e w1 ⟨P, ok, hO, rfl, hb1⟩; have HO := Lib.hid hO; clear hO; obtain ⟨base, whole, point, part, ex, minus, power, big⟩ := P; unfold Lit.val Lit.cells; have HZ := Lib.hid (HZ0.out.below hb1 HZ0.out.lt); obtain ⟨d0, d1, d2, d3, d4, d5, d6, d7, g0, g1, g2, g3, g4, g5, g6, g7⟩ := ParAt.facts HZ.out)
    (try simp only [Exit.inBlock, Exit.then])
    refine bodyPost_ret (results_par2 rfl _ _ _ _ rfl (ParAt.lay HZ.out)) rfl ?_
    exact ⟨_, _, HO.out, rfl, below_again (bel_next hB hb1) (Nat.le_refl _)⟩
  · have HR := Lib.hid (fun W => radix_any s 8 111 79 r W base8ok rfl (by decide) (by decide) (by decide) hss hs)
    have hv : ((s[1].toNat : Nat) : Int) = 79 := by rw [e1]; rfl
    clear hss hsz e0 e1
    go_enter Tryd.func26, Tryd.ntmps26
    go_upto_region 1 with fail
    have hZ : ParAt (w.alloc (.cells litZ.cells 49)) w.heap.size litZ := heap_alloc_new _ _
    have hB : Below w.heap.size w (w.alloc (.cells litZ.cells 49)) := (Below.refl _ _).alloc (Nat.le_refl _) _
    have e0 : (w.alloc (.cells litZ.cells 49)) = w.alloc (.cells #[.int .i64 0, .string ⟨#[]⟩, .bool false, .string ⟨#[]⟩, .bool false, .bool false, .string ⟨#[]⟩, .bool false] 49) := rfl
    rw [e0] at hZ hB
    generalize w.alloc (.cells #[.int .i64 0, .string ⟨#[]⟩, .bool false, .string ⟨#[]⟩, .bool false, .bool false, .string ⟨#[]⟩, .bool false] 49) = w0 at *
    clear e0
    have HZ0 := Lib.hid hZ
    clear hZ
    go_wp2_with (go_at_call 50; refine (HR.out _).mono ?_; rintro e w1 ⟨P, ok, hO, rfl, hb1⟩; have HO := Lib.hid hO; clear hO; obtain ⟨base, whole, point, part, ex, minus, power, big⟩ := P; unfold Lit.val Lit.cells; have HZ := Lib.hid (HZ0.out.below hb1 HZ0.out.lt); obtain ⟨d0, d1, d2, d3, d4, d5, d6, d7, g0, g1, g2, g3, g4, g5, g6, g7⟩ := ParAt.facts HZ.out)
    (try simp only [Exit.inBlock, Exit.then])
    refine bodyPost_ret (results_par2 rfl _ _ _ _ rfl (ParAt.lay HZ.out)) rfl ?_
    exact ⟨_, _, HO.out, rfl, below_again (bel_next hB hb1) (Nat.le_refl _)⟩
  · have HR := Lib.hid (fun W => radix_any s 2 98 98 r W base2ok rfl (by decide) (by decide) (by decide) hss hs)
    have hv : ((s[1].toNat : Nat) : Int) = 98 := by rw [e1]; rfl
    clear hss hsz e0 e1
    go_enter Tryd.func26, Tryd.ntmps26
    go_upto_region 1 with fail
    have hZ : ParAt (w.alloc (.cells litZ.cells 49)) w.heap.size litZ := heap_alloc_new _ _
    have hB : Below w.heap.size w (w.alloc (.cells litZ.cells 49)) := (Below.refl _ _).alloc (Nat.le_refl _) _
    have e0 : (w.alloc (.cells litZ.cells 49)) = w.alloc (.cells #[.int .i64 0, .string ⟨#[]⟩, .bool false, .string ⟨#[]⟩, .bool false, .bool false, .string ⟨#[]⟩, .bool false] 49) := rfl
    rw [e0] at hZ hB
    generalize w.alloc (.cells #[.int .i64 0, .string ⟨#[]⟩, .bool false, .string ⟨#[]⟩, .bool false, .bool false, .string ⟨#[]⟩, .bool false] 49) = w0 at *
    clear e0
    have HZ0 := Lib.hid hZ
    clear hZ
    go_wp2_with (go_at_call 50; refine (HR.out _).mono ?_; rintro e w1 ⟨P, ok, hO, rfl, hb1⟩; have HO := Lib.hid hO; clear hO; obtain ⟨base, whole, point, part, ex, minus, power, big⟩ := P; unfold Lit.val Lit.cells; have HZ := Lib.hid (HZ0.out.below hb1 HZ0.out.lt); obtain ⟨d0, d1, d2, d3, d4, d5, d6, d7, g0, g1, g2, g3, g4, g5, g6, g7⟩ := ParAt.facts HZ.out)
    (try simp only [Exit.inBlock, Exit.then])
    refine bodyPost_ret (results_par2 rfl _ _ _ _ rfl (ParAt.lay HZ.out)) rfl ?_
    exact ⟨_, _, HO.out, rfl, below_again (bel_next hB hb1) (Nat.le_refl _)⟩
  · have HR := Lib.hid (fun W => radix_any s 2 98 66 r W base2ok rfl (by decide) (by decide) (by decide) hss hs)
    have hv : ((s[1].toNat : Nat) : Int) = 66 := by rw [e1]; rfl
    clear hss hsz e0 e1
    go_enter Tryd.func26, Tryd.ntmps26
    go_upto_region 1 with fail
    have hZ : ParAt (w.alloc (.cells litZ.cells 49)) w.heap.size litZ := heap_alloc_new _ _
    have hB : Below w.heap.size w (w.alloc (.cells litZ.cells 49)) := (Below.refl _ _).alloc (Nat.le_refl _) _
    have e0 : (w.alloc (.cells litZ.cells 49)) = w.alloc (.cells #[.int .i64 0, .string ⟨#[]⟩, .bool false, .string ⟨#[]⟩, .bool false, .bool false, .string ⟨#[]⟩, .bool false] 49) := rfl
    rw [e0] at hZ hB
    generalize w.alloc (.cells #[.int .i64 0, .string ⟨#[]⟩, .bool false, .string ⟨#[]⟩, .bool false, .bool false, .string ⟨#[]⟩, .bool false] 49) = w0 at *
    clear e0
    have HZ0 := Lib.hid hZ
    clear hZ
    go_wp2_with (go_at_call 50; refine (HR.out _).mono ?_; rintro e w1 ⟨P, ok, hO, rfl, hb1⟩; have HO := Lib.hid hO; clear hO; obtain ⟨base, whole, point, part, ex, minus, power, big⟩ := P; unfold Lit.val Lit.cells; have HZ := Lib.hid (HZ0.out.below hb1 HZ0.out.lt); obtain ⟨d0, d1, d2, d3, d4, d5, d6, d7, g0, g1, g2, g3, g4, g5, g6, g7⟩ := ParAt.facts HZ.out)
    (try simp only [Exit.inBlock, Exit.then])
    refine bodyPost_ret (results_par2 rfl _ _ _ _ rfl (ParAt.lay HZ.out)) rfl ?_
    exact ⟨_, _, HO.out, rfl, below_again (bel_next hB hb1) (Nat.le_refl _)⟩
end Go.Proofs.YthnchejhcmpipaaDoor
