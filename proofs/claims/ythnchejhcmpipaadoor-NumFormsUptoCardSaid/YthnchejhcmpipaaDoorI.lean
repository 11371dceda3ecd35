/- Contract of num.more where the small number is added to a number below 0. Conditions: canonical digits of at most 2^24 bytes; the small number is at most 2^22. -/
import Derived.Test.YthnchejhcmpipaaDoorH
namespace Go.Proofs.YthnchejhcmpipaaDoor
open Go.RowKit

structure SubR (r : Nat) (D hi lo : List UInt8) (m : Nat) : Prop where
  val : valN hi * 10 ^ lo.length + valN lo = r + m * 10 ^ lo.length
  pre : ∃ t, D = hi ++ t
  dig : allDig lo
theorem subR_start {D : List UInt8} {b : Nat} (h : b < valN D) : SubR (valN D - b) D D [] b :=
  ⟨by simp [show valN [] = 0 from valGo_nil 0]; omega, ⟨[], by simp⟩, fun _ h => (by cases h)⟩
theorem subR_some {r m : Nat} {D lo : List UInt8} (h : SubR r D [] lo m) (hr : 0 < r) (hm : 0 < m) : False := by
  have h1 := h.val
  rw [show valN [] = 0 from valGo_nil 0, Nat.zero_mul, Nat.zero_add] at h1
  have h2 := valN_lt h.dig
  have h3 : 1 * 10 ^ lo.length ≤ m * 10 ^ lo.length := Nat.mul_le_mul_right _ hm
  omega
theorem subR_in {r m d k : Nat} {D hi lo : List UInt8} {c : UInt8} (h : SubR r D (hi ++ [c]) lo m) (hd : d < 10) (he : (c.toNat - 48) + 10 * k = d + m % 10) : SubR r D hi (digB d :: lo) (m / 10 + k) := by
  have hdm := Nat.div_add_mod m 10
  refine ⟨?_, ?_, ?_⟩
  · have hv := h.val
    rw [valN_snoc] at hv
    rw [valN_cons, List.length_cons, digB_toNat hd, Nat.pow_succ, show 48 + d - 48 = d by omega]
    generalize 10 ^ lo.length = T at *
    have e1 : (10 * valN hi + (c.toNat - 48)) * T + 10 * k * T = valN hi * (T * 10) + (d * T + m % 10 * T) := by
      rw [← Nat.add_mul, ← Nat.add_mul, Nat.add_assoc, he, Nat.add_mul]
      congr 1
      rw [Nat.mul_comm 10, Nat.mul_assoc, Nat.mul_comm 10]
    have e2 : (m / 10 + k) * (T * 10) + m % 10 * T = m * T + 10 * k * T := by
      conv => rhs; rw [← hdm]
      rw [Nat.add_mul, Nat.add_mul]
      have : ∀ x : Nat, x * (T * 10) = 10 * x * T := fun x => by rw [Nat.mul_comm T 10, ← Nat.mul_assoc, Nat.mul_comm x 10]
      rw [this, this]
      omega
    omega
  · obtain ⟨t, ht⟩ := h.pre
    exact ⟨c :: t, by rw [ht]; simp⟩
  · intro x hx
    rcases List.mem_cons.1 hx with rfl | hx
    · exact digB_dig hd
    · exact h.dig x hx
theorem valN_trim : ∀ l : List UInt8, valN (l.dropWhile (· == 48)) = valN l
  | [] => rfl
  | c :: l => by
    rw [List.dropWhile_cons]
    split
    · rename_i h
      have hc : c = 48 := by simpa using h
      rw [valN_trim l, valN_cons, hc]
      show _ = (48 - 48) * _ + _
      simp
    · rfl
theorem trim_head : ∀ l : List UInt8, (l.dropWhile (· == 48)).head? ≠ some 48
  | [] => by simp
  | c :: l => by
    rw [List.dropWhile_cons]
    split
    · exact trim_head l
    · rename_i h
      simpa using h
theorem trim_dec {l : List UInt8} (hd : allDig l) (hv : 0 < valN l) : Lib.trimLeftB l 48 = decL (valN l) := by
  unfold Lib.trimLeftB
  have h1 := valN_trim l
  rw [← h1]
  refine (decL_canon ⟨fun c hc => hd c ((List.dropWhile_sublist _).subset hc), ?_, .inr (trim_head l)⟩).symm
  intro e
  rw [e, show valN [] = 0 from valGo_nil 0] at h1
  omega
theorem subR_done {r : Nat} {D hi lo : List UInt8} (h : SubR r D hi lo 0) (hD : allDig D) (hr : 0 < r) : Lib.trimLeftB (hi ++ lo) 48 = decL r := by
  have hv : valN (hi ++ lo) = r := by rw [valN_append, h.val]; omega
  obtain ⟨t, ht⟩ := h.pre
  rw [trim_dec (fun c hc => by
    rcases List.mem_append.1 hc with hc | hc
    · exact hD c (by rw [ht]; simp [hc])
    · exact h.dig c hc) (by omega), hv]
def SubS (w wr : World) (r g : Nat) (n : Nat) (D : List UInt8) (v i : Value) : Prop :=
  ∃ (m : Nat) (hi lo : List UInt8), v = .int .i64 m ∧ m ≤ 4194304 ∧ i = .int .i64 ((hi.length : Int) - 1) ∧ hi.length + lo.length = n ∧ BRow wr w.heap.size g (hi ++ lo) ∧ SubR r D hi lo m ∧ Below w.heap.size w wr
/-- what more answers for -p + b. -/
def moreSub (p b : Nat) : ByteArray × Bool := if p ≤ b then (⟨(decL (b - p)).toArray⟩, false) else (⟨(decL (p - b)).toArray⟩, true)

set_option maxRecDepth 20000 in
set_option maxHeartbeats 1000000 in
theorem more_sub (s : ByteArray) (b : Nat) (w : World) (hs : s.size ≤ 16777216) (hb : b ≤ 4194304) (hD : canonD s.data.toList) :
    Calls Tryd.prog 24 #[.string s, .bool true, .int .i64 b] w fun e w' => e = .returned (.tuple #[.string (moreSub (valN s.data.toList) b).1, .bool (moreSub (valN s.data.toList) b).2]) ∧ Below w.heap.size w w' := by
  have HD := Lib.hid hD
  have hbb := bytes_below w s
  have hbr := brow_new w s
  have hcv := Lib.run_convert_string_bytes (P := Tryd.prog) (u := .string) w 9 53 5 s (by kernel_rfl) (by kernel_rfl) (by kernel_rfl)
  generalize Lib.bytesWorld w 5 s = w1 at *
  generalize grownCap w s.size 0 5 = cp at *
  have HB := Lib.hid hbb
  have HR := Lib.hid hbr
  have hsm := fun W => small_any s b W hs (by omega) hD.1
  clear hD hbb hbr
  by_cases hle : valN s.data.toList ≤ b
  · have hz : smallZ s.data.toList b = valN s.data.toList := by unfold smallZ; rw [if_pos hle]
    rw [hz] at hsm
    have HM := Lib.hid (show moreSub (valN s.data.toList) b = (⟨(decL (b - valN s.data.toList)).toArray⟩, false) by unfold moreSub; rw [if_pos hle])
    generalize valN s.data.toList = p at *
    have HS := Lib.hid hsm
    have HT := Lib.hid (text_gen (b - p) (by omega))
    clear hsm hz
    go_enter Tryd.func24, Tryd.ntmps24
    go_wp2_with (first | (go_at_call 47; refine (HS.out _).mono ?_; rintro e w2 ⟨rfl, rfl⟩) | (go_at_call 48; refine (HT.out _ _ (by omega)).mono ?_; rintro e w3 ⟨rfl, hb3⟩))
    go_ret2
    exact ⟨by rw [HM.out]; rfl, bel_next HB.out hb3⟩
  · have hz : smallZ s.data.toList b = -1 := by unfold smallZ; rw [if_neg hle]
    rw [hz] at hsm
    have HM := Lib.hid (show moreSub (valN s.data.toList) b = (⟨(decL (valN s.data.toList - b)).toArray⟩, true) by unfold moreSub; rw [if_neg hle])
    have HS := Lib.hid hsm
    have HST := Lib.hid (subR_start (D := s.data.toList) (b := b) (by omega))
    have hr0 : 0 < valN s.data.toList - b := by omega
    clear hsm hz hle
    generalize valN s.data.toList - b = r at *
    go_enter Tryd.func24, Tryd.ntmps24
    go_wp2_with (go_at_call 47; refine (HS.out _).mono ?_; rintro e w2 ⟨rfl, rfl⟩)
    go_loopw [2, 13, 14] (fun v i _ wr => SubS w wr r w.heap.size s.size s.data.toList v i) (fun _ i _ _ => (intOf i + 1).toNat)
    case atStart =>
      exact ⟨b, s.data.toList, [], rfl, hb, by rw [ofl], by rw [ofl]; rfl, by rw [List.append_nil]; exact HR.out, HST.out, HB.out⟩
    case round =>
      obtain ⟨m, hi, lo, rfl, hm, rfl, hlen, hbr, hsr, hbel⟩ := hrel
      have HSR := Lib.hid hsr
      have HBR := Lib.hid hbr
      clear hsr hbr
      by_cases hm0 : 0 < m
      · rcases nil_or_snoc hi with rfl | ⟨hi', c, rfl⟩
        · exact absurd (subR_some HSR.out hr0 hm0) id
        · have hl2 : (hi' ++ [c] ++ lo).length = s.size := by rw [List.length_append]; exact hlen
          rw [List.length_append, List.length_singleton] at hlen
          have hk : hi'.length < (hi' ++ [c] ++ lo).length := by omega
          have hce : (hi' ++ [c] ++ lo)[hi'.length] = c := by simp
          have hcell := HBR.out.cell hi'.length hk
          have hfz := HBR.out.fz hi'.length hk
          rw [hce] at hcell
          have hc := (HD.out.1 c (by obtain ⟨t, ht⟩ := HSR.out.pre; rw [ht]; simp))
          have hge := HBR.out.ge
          by_cases hlt : c.toNat - 48 < m % 10
          · have hdl : c.toNat - 48 + 10 - m % 10 < 10 := by omega
            have hset : (hi' ++ [c] ++ lo).set hi'.length (digB (c.toNat - 48 + 10 - m % 10)) = hi' ++ digB (c.toNat - 48 + 10 - m % 10) :: lo := by simp
            have hbs := HBR.out.set hi'.length hk (digB (c.toNat - 48 + 10 - m % 10))
            rw [hset, digB_toNat hdl] at hbs
            have HN := Lib.hid (subR_in (k := 1) HSR.out hdl (by omega))
            have HBS := Lib.hid hbs
            clear hset hbs hce hl2 hk
            go_wp2_with fail
            go_roundw
            case rel =>
              have hv : (48 + ((c.toNat : Int) - 48 - (m : Int) % 10 + 10)) = ((48 + (c.toNat - 48 + 10 - m % 10) : Nat) : Int) := by omega
              rw [hv]
              refine ⟨m / 10 + 1, hi', digB (c.toNat - 48 + 10 - m % 10) :: lo, ?_, by omega, rfl, ?_, HBS.out, HN.out, hbel.setCell hge _⟩
              · congr 1
              · rw [List.length_cons]; omega
            case measure => simp [intOf]
          · have hdl : c.toNat - 48 - m % 10 < 10 := by omega
            have hset : (hi' ++ [c] ++ lo).set hi'.length (digB (c.toNat - 48 - m % 10)) = hi' ++ digB (c.toNat - 48 - m % 10) :: lo := by simp
            have hbs := HBR.out.set hi'.length hk (digB (c.toNat - 48 - m % 10))
            rw [hset, digB_toNat hdl] at hbs
            have HN := Lib.hid (subR_in (k := 0) HSR.out hdl (by omega))
            have HBS := Lib.hid hbs
            clear hset hbs hce hl2 hk
            go_wp2_with fail
            go_roundw
            case rel =>
              have hv : (48 + ((c.toNat : Int) - 48 - (m : Int) % 10)) = ((48 + (c.toNat - 48 - m % 10) : Nat) : Int) := by omega
              rw [hv]
              refine ⟨m / 10, hi', digB (c.toNat - 48 - m % 10) :: lo, ?_, by omega, rfl, ?_, HBS.out, HN.out, hbel.setCell hge _⟩
              · congr 1
              · rw [List.length_cons]; omega
            case measure => simp [intOf]
      · obtain rfl : m = 0 := by omega
        have hstr := brow_string (cap := cp) HBR.out
        rw [List.length_append, hlen] at hstr
        obtain ⟨Q, hQ⟩ : ∃ Q : ByteArray, (⟨(hi ++ lo).toArray⟩ : ByteArray) = Q := ⟨_, rfl⟩
        have hQl : Q.data.toList = hi ++ lo := by rw [← hQ]
        rw [hQ] at hstr
        have hT := fun W => Tryd.strings_TrimLeft_one Q 48 (by decide) W
        rw [hQl, subR_done HSR.out HD.out.1 hr0] at hT
        have HT := Lib.hid hT
        clear hT hQl hQ
        go_wp2_with (go_at_call 19; refine (HT.out _).mono ?_; rintro e w2 ⟨rfl, rfl⟩)
        go_ret2
        exact ⟨by rw [HM.out]; rfl, hbel⟩
end Go.Proofs.YthnchejhcmpipaaDoor
