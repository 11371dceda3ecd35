/- Contract of exponent. Conditions: at most 2^24 bytes; MaxLen holds a number; the literal lies in a block of its own. -/
import Derived.Test.YteejjkfmmhegmaaGreatDoorB
namespace Go.Proofs.YteejjkfmmhegmaaGreatDoor
open Go.RowKit

/-- a literal's pieces, as they lie in memory. -/
structure Lit where
  base : Nat
  whole : ByteArray
  point : Bool
  part : ByteArray
  ex : Bool
  minus : Bool
  power : ByteArray
  big : Bool
def Lit.cells (x : Lit) : Array Value := #[.int .i64 x.base, .string x.whole, .bool x.point, .string x.part, .bool x.ex, .bool x.minus, .string x.power, .bool x.big]
def Lit.val (x : Lit) : Value := .agg x.cells
def LitAt (w : World) (b : Nat) (x : Lit) : Prop := w.heap[b]? = some (.cells x.cells 76 (0, 0))
theorem LitAt.lt {w : World} {b : Nat} {x : Lit} (h : LitAt w b x) : b < w.heap.size := (Array.getElem?_eq_some_iff.1 h).1
theorem LitAt.below {w w' : World} {b B : Nat} {x : Lit} (h : LitAt w b x) (hb : Below B w w') (hB : b < B) : LitAt w' b x := (hb.block b hB).trans h
theorem LitAt.cell {w : World} {b : Nat} {x : Lit} (h : LitAt w b x) (k : Nat) : w.cell? ⟨b, k, none⟩ = x.cells[k]? := by
  unfold LitAt at h
  simp [World.cell?, h]
theorem LitAt.frozen {w : World} {b : Nat} {x : Lit} (h : LitAt w b x) (k : Nat) : w.frozen? ⟨b, k, none⟩ = false := frozen_of_row w b k x.cells _ h
theorem LitAt.set {w : World} {b : Nat} {x y : Lit} (h : LitAt w b x) (k : Nat) (v : Value) (hy : x.cells.setIfInBounds k v = y.cells) : LitAt (w.setCell ⟨b, k, none⟩ v) b y := by
  have := heap_setCell_same w b k x.cells 76 v h
  rw [hy] at this
  exact this
/-- an exponent at a text's beginning: its sign, its digits, what stands behind. -/
def signO (d : ByteArray) : Bool × ByteArray := (Lib.hasPrefix d.data.toList [45], if (Lib.hasPrefix d.data.toList [45] || Lib.hasPrefix d.data.toList [43]) = true then d.extract 1 d.size else d)
def powO (m : Bool) (d : ByteArray) : Option (Bool × ByteArray × ByteArray) :=
  if runN 0 false d.data.toList = 0 ∨ 9 < (Lib.trimLeftB (plainL (d.extract 0 (runN 0 false d.data.toList)).data.toList) 48).length then none
  else some (m, d.extract 0 (runN 0 false d.data.toList), d.extract (runN 0 false d.data.toList) d.size)
def expO (s : ByteArray) : Option (Bool × ByteArray × ByteArray) :=
  if h : 0 < s.size then if (s[0].toNat ||| 32) = 101 then powO (signO (s.extract 1 s.size)).1 (signO (s.extract 1 s.size)).2 else none else none
def ExpPost (b : Nat) (x : Lit) (s : ByteArray) (w : World) (o : Option (Bool × ByteArray × ByteArray)) (e : Ending) (w' : World) : Prop :=
  match o with
  | none => e = .returned (.string s) ∧ Below w.heap.size w w'
  | some (m, p, r) => e = .returned (.string r) ∧ LitAt w' b { x with ex := true, minus := m, power := p } ∧ Below b w w'
theorem signO_size (d : ByteArray) : (signO d).2.size ≤ d.size := by
  unfold signO
  simp only
  split
  · rw [ByteArray.size_extract]; omega
  · exact Nat.le_refl _
theorem isEmpty_pos {s : ByteArray} (h : 0 < s.size) : s.toList.isEmpty = false := by
  rw [Lib.toList_data]
  cases hl : s.data.toList with
  | nil => have := congrArg List.length hl; rw [ofl, List.length_nil] at this; omega
  | cons x l => rfl
theorem isEmpty_zero {s : ByteArray} (h : s.size = 0) : s.toList.isEmpty = true := by
  rw [Lib.toList_data, List.length_eq_zero_iff.1 (show s.data.toList.length = 0 by rw [ofl]; exact h)]
  rfl
theorem hasPrefix_pos {d : ByteArray} {c : UInt8} (h : Lib.hasPrefix d.data.toList [c] = true) : 0 < d.size := by
  rw [← ofl]
  cases hl : d.data.toList with
  | nil => rw [hl] at h; cases h
  | cons x l => simp

set_option maxRecDepth 100000 in
set_option maxHeartbeats 1000000 in
theorem exp_any (b : Nat) (x : Lit) (s : ByteArray) (w : World) (hx : LitAt w b x) (hs : s.size ≤ 16777216) (hM : MaxAt w) :
    Calls Tryz.prog 125 #[.pointer (some ⟨b, 0, none⟩), .string s] w fun e w' => ExpPost b x s w (expO s) e w' := by
  by_cases h0 : 0 < s.size
  · have ho := or32 s[0]
    by_cases he : (s[0].toNat ||| 32) = 101
    · have b1 : (((s[0].toNat ||| 32 : Nat) : Int) != 101) = false := by rw [he]; rfl
      have hE : expO s = powO (signO (s.extract 1 s.size)).1 (signO (s.extract 1 s.size)).2 := by unfold expO; rw [dif_pos h0, if_pos he]
      have HE := Lib.hid hE
      have hds : (s.extract 1 s.size).size ≤ 16777216 := by rw [ByteArray.size_extract]; omega
      have HX := Lib.hid hx
      have HM := Lib.hid hM
      clear hE hx hM
      go_enter Tryz.func125, Tryz.ntmps125
      have hem := isEmpty_pos h0
      go_upto_block 0 with fail
      generalize hd : s.extract 1 s.size = d at *
      have HD := Lib.hid hd
      clear hd
      go_cut [5, 6] (fun t m wx => t = .string (signO d).2 ∧ m = .bool (signO d).1 ∧ wx = w)
      case first =>
        have H1 := Lib.hid (Tryz.strings_HasPrefix d ⟨#[45]⟩)
        have H2 := Lib.hid (Tryz.strings_HasPrefix d ⟨#[43]⟩)
        rw [show (ByteArray.mk #[45]).data.toList = [45] from rfl] at H1
        rw [show (ByteArray.mk #[43]).data.toList = [43] from rfl] at H2
        cases hm : Lib.hasPrefix d.data.toList [45] with
        | true =>
          have HS := Lib.hid (show signO d = (true, d.extract 1 d.size) by unfold signO; rw [hm]; rfl)
          have hpos := hasPrefix_pos hm
          rw [hm] at H1
          clear hm
          go_wp2_with (go_at_call 45; refine (H1.out _).mono ?_; rintro e w' ⟨rfl, rfl⟩)
          go_meet
          exact ⟨by rw [HS.out], by rw [HS.out], rfl⟩
        | false =>
          rw [hm] at H1
          cases hp : Lib.hasPrefix d.data.toList [43] with
          | true =>
            have HS := Lib.hid (show signO d = (false, d.extract 1 d.size) by unfold signO; rw [hm, hp]; rfl)
            have hpos := hasPrefix_pos hp
            rw [hp] at H2
            clear hm hp
            go_wp2_with (first | (go_at_call 45; refine (H1.out _).mono ?_; rintro e w' ⟨rfl, rfl⟩) | (go_at_call 45; refine (H2.out _).mono ?_; rintro e w' ⟨rfl, rfl⟩))
            go_meet
            exact ⟨by rw [HS.out], by rw [HS.out], rfl⟩
          | false =>
            have HS := Lib.hid (show signO d = (false, d) by unfold signO; rw [hm, hp]; rfl)
            rw [hp] at H2
            clear hm hp
            go_wp2_with (first | (go_at_call 45; refine (H1.out _).mono ?_; rintro e w' ⟨rfl, rfl⟩) | (go_at_call 45; refine (H2.out _).mono ?_; rintro e w' ⟨rfl, rfl⟩))
            go_meet
            exact ⟨by rw [HS.out], by rw [HS.out], rfl⟩
      case rest =>
        obtain ⟨rfl, rfl, hwc⟩ := hcut
        subst hwc
        have hts : (signO d).2.size ≤ 16777216 := Nat.le_trans (signO_size d) hds
        generalize (signO d).2 = t at *
        generalize (signO d).1 = m at *
        have hle := runN_le 0 false t.data.toList
        rw [ofl] at hle
        have hR := fun W => run_any t 0 W (by decide) hts
        have hpw := plain_any (t.extract 0 (runN 0 false t.data.toList))
        have hP : powO m t = if runN 0 false t.data.toList = 0 ∨ 9 < (Lib.trimLeftB (plainL (t.extract 0 (runN 0 false t.data.toList)).data.toList) 48).length then none else some (m, t.extract 0 (runN 0 false t.data.toList), t.extract (runN 0 false t.data.toList) t.size) := rfl
        generalize runN 0 false t.data.toList = n at *
        have hps : (t.extract 0 n).size = n := by rw [ByteArray.size_extract]; omega
        have HR := Lib.hid hR
        have HPW := Lib.hid hpw
        have HP := Lib.hid hP
        clear hR hP hpw
        by_cases hn0 : n = 0
        · have HO := Lib.hid (show expO s = none by rw [HE.out, HP.out, if_pos (.inl hn0)])
          have hpe := isEmpty_zero (hps.trans hn0)
          clear hn0
          go_wp2_with (go_at_call 124; refine (HR.out _).mono ?_; rintro e w1 ⟨rfl, hb1⟩)
          go_ret
          rw [HO.out]
          exact ⟨rfl, hb1⟩
        · have hpe := isEmpty_pos (show 0 < (t.extract 0 n).size by omega)
          obtain ⟨Q, hQ⟩ : ∃ Q : ByteArray, (⟨(plainL (t.extract 0 n).data.toList).toArray⟩ : ByteArray) = Q := ⟨_, rfl⟩
          have hQl : Q.data.toList = plainL (t.extract 0 n).data.toList := by rw [← hQ]
          have hPQ := HPW.out
          rw [hQ] at hPQ
          have HPQ := Lib.hid hPQ
          obtain ⟨T, hT0⟩ : ∃ T : ByteArray, (⟨(Lib.trimLeftB Q.data.toList 48).toArray⟩ : ByteArray) = T := ⟨_, rfl⟩
          have hTs : T.size = (Lib.trimLeftB (plainL (t.extract 0 n).data.toList) 48).length := by rw [← hT0, hQl]; rfl
          have hT := fun W => Tryz.strings_TrimLeft_one Q 48 (by decide) W
          rw [hT0] at hT
          clear hT0 hQ hQl hPQ HPW
          by_cases h9 : 9 < (Lib.trimLeftB (plainL (t.extract 0 n).data.toList) 48).length
          · have HO := Lib.hid (show expO s = none by rw [HE.out, HP.out, if_pos (.inr h9)])
            rw [← hTs] at h9
            have HT := Lib.hid hT
            clear hT hTs HP hn0
            go_upto_region 10 with (go_at_call 124; refine (HR.out _).mono ?_; rintro e w1 ⟨rfl, hb1⟩)
            have HPL := Lib.hid (HPQ.out w1 (by rw [hps]; omega) (HM.out.below hb1))
            go_wp2_with (first | (go_at_call 153; refine HPL.out.mono ?_; rintro e w2p ⟨rfl, hb2⟩) | (go_at_call 152; refine (HT.out _).mono ?_; rintro e w2 ⟨rfl, rfl⟩))
            go_ret
            rw [HO.out]
            exact ⟨rfl, bel_next hb1 hb2⟩
          · have HO := Lib.hid (show expO s = some (m, t.extract 0 n, t.extract n t.size) by rw [HE.out, HP.out, if_neg (fun h => h.elim hn0 h9)])
            rw [← hTs] at h9
            have HT := Lib.hid hT
            clear hT hTs HP hn0
            go_upto_region 10 with (go_at_call 124; refine (HR.out _).mono ?_; rintro e w1 ⟨rfl, hb1⟩)
            have HPL := Lib.hid (HPQ.out w1 (by rw [hps]; omega) (HM.out.below hb1))
            go_upto_region 12 with (first | (go_at_call 153; refine HPL.out.mono ?_; rintro e w2p ⟨rfl, hb2⟩) | (go_at_call 152; refine (HT.out _).mono ?_; rintro e w2 ⟨rfl, rfl⟩))
            have hbb := bel_next hb1 hb2
            have hlt := HX.out.lt
            have hl2 := HX.out.below hbb hlt
            have c4 : w2.cell? ⟨b, 4, none⟩ = some (.bool x.ex) := hl2.cell 4
            have c5 : w2.cell? ⟨b, 5, none⟩ = some (.bool x.minus) := hl2.cell 5
            have c6 : w2.cell? ⟨b, 6, none⟩ = some (.string x.power) := hl2.cell 6
            have f4 := hl2.frozen 4
            have f5 := hl2.frozen 5
            have f6 := hl2.frozen 6
            have HL2 := Lib.hid hl2
            clear hl2
            go_wp2_with fail
            go_ret
            rw [HO.out]
            refine ⟨rfl, ?_, (((hbb.mono (Nat.le_of_lt hlt)).setCell (Nat.le_refl _) _).setCell (Nat.le_refl _) _).setCell (Nat.le_refl _) _⟩
            exact LitAt.set (x := { x with ex := true, minus := m }) (LitAt.set (x := { x with ex := true }) (LitAt.set (x := x) HL2.out 4 _ rfl) 5 _ rfl) 6 _ rfl
    · have b1 : (((s[0].toNat ||| 32 : Nat) : Int) != 101) = true := by rw [bne_iff_ne]; omega
      have hE : expO s = none := by unfold expO; rw [dif_pos h0, if_neg he]
      have hem := isEmpty_pos h0
      rw [hE]
      clear hE he hx hM
      go_enter Tryz.func125, Tryz.ntmps125
      go_wp2_with fail
      go_ret
      exact ⟨rfl, Below.refl _ _⟩
  · have hE : expO s = none := by unfold expO; rw [dif_neg h0]
    have hem := isEmpty_zero (show s.size = 0 by omega)
    rw [hE]
    clear hE hx hM
    go_enter Tryz.func125, Tryz.ntmps125
    go_wp2_with fail
    go_ret
    exact ⟨rfl, Below.refl _ _⟩
end Go.Proofs.YteejjkfmmhegmaaGreatDoor
