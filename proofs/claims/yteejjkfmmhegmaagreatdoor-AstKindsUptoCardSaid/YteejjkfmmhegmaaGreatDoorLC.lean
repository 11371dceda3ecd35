/- The lexer's reader in memory; contracts of next, is, stop, pass, broken, digit. Conditions: the library's tables lie as they are laid; at most 2^24 bytes. -/
import Derived.Test.YteejjkfmmhegmaaGreatDoorLB
import Derived.Test.YteejjkfmmhegmaaGreatDoorE
import Derived.Shelf.Unicode.DecodeSlow
import Derived.Deep.QuietTactic
import Derived.Lib.TrimU
import Derived.Lib.MapLaws
namespace Go.Proofs.YteejjkfmmhegmaaGreatDoor
open Go.RowKit

/-- where a reader is. -/
structure Rd where
  at' : Nat
  line : Bool
  fail : Int
  code : Int
def Rd.cells (s : ByteArray) (x : Rd) : Array Value := #[.int .i64 x.at', .string s, .bool x.line, .int .i64 x.fail, .int .i64 x.code]
def RdAt (w : World) (b : Nat) (s : ByteArray) (x : Rd) : Prop := w.heap[b]? = some (.cells (x.cells s) 106 (0, 0))
/-- but for block b all old blocks are as they were. -/
structure But (b : Nat) (w w' : World) : Prop where
  os : w'.os = w.os
  tape : w'.tape = w.tape
  output : w'.output = w.output
  size : w.heap.size ≤ w'.heap.size
  block : ∀ k, k < w.heap.size → k ≠ b → w'.heap[k]? = w.heap[k]?
theorem But.refl (b : Nat) (w : World) : But b w w := ⟨rfl, rfl, rfl, Nat.le_refl _, fun _ _ _ => rfl⟩
theorem But.trans {b : Nat} {u v w : World} (h : But b u v) (k : But b v w) : But b u w :=
  ⟨k.os.trans h.os, k.tape.trans h.tape, k.output.trans h.output, Nat.le_trans h.size k.size, fun i h1 h2 => (k.block i (Nat.lt_of_lt_of_le h1 h.size) h2).trans (h.block i h1 h2)⟩
theorem But.of_below {b : Nat} {w w' : World} (h : Below w.heap.size w w') : But b w w' := ⟨h.os, h.tape, h.output, h.size, fun k hk _ => h.block k hk⟩
theorem But.bel {b : Nat} {u v w : World} (h : But b u v) (k : Below v.heap.size v w) : But b u w := h.trans (.of_below k)
theorem But.below {b B : Nat} {w w' : World} (h : But b w w') (h1 : B ≤ b) (h2 : B ≤ w.heap.size) : Below B w w' := ⟨h.os, h.tape, h.output, h.size, fun k hk => h.block k (by omega) (by omega)⟩
theorem But.setCell {b : Nat} {u w : World} (h : But b u w) (j : Nat) (v : Value) : But b u (w.setCell ⟨b, j, none⟩ v) :=
  ⟨h.os, h.tape, h.output, by have := h.size; simpa [World.setCell] using this, fun k h1 h2 => (Below.heap_setCell _ _ _ _ h2).trans (h.block k h1 h2)⟩
theorem But.drewN {b : Nat} {u w : World} (h : But b u w) (n : Nat) : But b u (w.drewN n) := ⟨h.os, h.tape, h.output, h.size, h.block⟩
theorem RdAt.lt {w : World} {b : Nat} {s : ByteArray} {x : Rd} (h : RdAt w b s x) : b < w.heap.size := (Array.getElem?_eq_some_iff.1 h).1
theorem RdAt.bel {w w' : World} {b : Nat} {s : ByteArray} {x : Rd} (h : RdAt w b s x) (hb : Below w.heap.size w w') : RdAt w' b s x := (hb.block b h.lt).trans h
theorem RdAt.cell {w : World} {b : Nat} {s : ByteArray} {x : Rd} (h : RdAt w b s x) (k : Nat) : w.cell? ⟨b, k, none⟩ = (x.cells s)[k]? := by
  unfold RdAt at h
  simp [World.cell?, h]
theorem RdAt.frozen {w : World} {b : Nat} {s : ByteArray} {x : Rd} (h : RdAt w b s x) (k : Nat) : w.frozen? ⟨b, k, none⟩ = false := frozen_of_row w b k (x.cells s) _ h
theorem RdAt.set {w : World} {b : Nat} {s : ByteArray} {x y : Rd} (h : RdAt w b s x) (k : Nat) (v : Value) (hy : (x.cells s).setIfInBounds k v = y.cells s) : RdAt (w.setCell ⟨b, k, none⟩ v) b s y := by
  have := heap_setCell_same w b k (x.cells s) 106 v h
  rw [hy] at this
  exact this
theorem RdAt.facts {w : World} {b : Nat} {s : ByteArray} {p : Nat} {line : Bool} {fail code : Int} (h : RdAt w b s ⟨p, line, fail, code⟩) :
    w.cell? ⟨b, 0, none⟩ = some (.int .i64 p) ∧ w.cell? ⟨b, 1, none⟩ = some (.string s) ∧ w.cell? ⟨b, 2, none⟩ = some (.bool line) ∧ w.cell? ⟨b, 3, none⟩ = some (.int .i64 fail) ∧ w.cell? ⟨b, 4, none⟩ = some (.int .i64 code) ∧
    w.frozen? ⟨b, 0, none⟩ = false ∧ w.frozen? ⟨b, 1, none⟩ = false ∧ w.frozen? ⟨b, 2, none⟩ = false ∧ w.frozen? ⟨b, 3, none⟩ = false ∧ w.frozen? ⟨b, 4, none⟩ = false :=
  ⟨h.cell 0, h.cell 1, h.cell 2, h.cell 3, h.cell 4, h.frozen 0, h.frozen 1, h.frozen 2, h.frozen 3, h.frozen 4⟩
/-- the library's variables are as they are asked. -/
def Ready (b : Nat) (w : World) : Prop := ∃ w0 : World, w0.heap.size ≤ b ∧ Lib.Utf8Tabs 2 3 w0 ∧ MaxAt w0 ∧ Below w0.heap.size w0 w
theorem Ready.tabs {b : Nat} {w : World} (h : Ready b w) : Lib.Utf8Tabs 2 3 w := by
  obtain ⟨w0, _, h1, _, h2⟩ := h
  exact Utf8Tabs_below h1 h2
theorem Ready.max {b : Nat} {w : World} (h : Ready b w) : MaxAt w := by
  obtain ⟨w0, _, _, h1, h2⟩ := h
  exact h1.below h2
theorem Ready.bel {b : Nat} {w w' : World} (h : Ready b w) (hb : Below b w w') : Ready b w' := by
  obtain ⟨w0, h0, h1, h2, h3⟩ := h
  exact ⟨w0, h0, h1, h2, h3.trans (hb.mono h0)⟩
theorem Ready.but {b : Nat} {w w' : World} (h : Ready b w) (hl : b < w.heap.size) (hb : But b w w') : Ready b w' := h.bel (hb.below (Nat.le_refl _) (Nat.le_of_lt hl))
theorem Ready.next {b : Nat} {w w' : World} (h : Ready b w) (hl : b < w.heap.size) (hb : Below w.heap.size w w') : Ready b w' := h.bel (hb.mono (Nat.le_of_lt hl))
/-- the character at a text's beginning, and its width; 0: the end; -1: a byte that is none. -/
def nx (l : List UInt8) : Int × Int :=
  let d := Lib.decodeGo ⟨l.toArray⟩
  if d.1 = 65533 ∧ d.2 = 1 then (0, -1) else (d.1, d.2)
theorem decodeGo_le (A : ByteArray) : (Lib.decodeGo A).2 ≤ 4 ∧ (Lib.decodeGo A).1 < 1114112 := by
  unfold Lib.decodeGo
  split
  · decide
  · refine ⟨?_, by have := Lib.rune_le A 0; omega⟩
    rw [Lib.decode_at]
    unfold Lib.decodeN
    repeat' split
    all_goals simp
set_option maxRecDepth 20000 in
set_option maxHeartbeats 1000000 in
theorem next_any (s : ByteArray) (p : Nat) (w : World) (hp : p ≤ s.size) (hT : Lib.Utf8Tabs 2 3 w) (z : Int) (hz : z = p) :
    Calls Tryz.prog 156 #[.string s, .int .i64 z] w fun e w' => e = .returned (.tuple #[.int .i64 (nx (s.data.toList.drop p)).1, .int .i64 (nx (s.data.toList.drop p)).2]) ∧ Below w.heap.size w w' := by
  subst hz
  have hd := Tryz.utf8_DecodeRuneInString (s.extract p s.size) w hT
  have hn : nx (s.data.toList.drop p) = if (Lib.decodeGo (s.extract p s.size)).1 = 65533 ∧ (Lib.decodeGo (s.extract p s.size)).2 = 1 then (((0 : Int), (-1 : Int)) : Int × Int) else (((Lib.decodeGo (s.extract p s.size)).1 : Int), ((Lib.decodeGo (s.extract p s.size)).2 : Int)) := by
    unfold nx
    rw [byteArray_ext (s.extract p s.size) (s.data.toList.drop p) (extract_drop s p)]
  have hle := decodeGo_le (s.extract p s.size)
  obtain ⟨⟨c, n⟩, hcn⟩ : ∃ q, Lib.decodeGo (s.extract p s.size) = q := ⟨_, rfl⟩
  rw [hcn] at hd hn hle
  simp only at hd hn hle
  obtain ⟨hl1, hl2⟩ := hle
  have HD := Lib.hid hd
  clear hcn hd hT
  by_cases h1 : c = 65533
  · by_cases h2 : n = 1
    · rw [if_pos ⟨h1, h2⟩] at hn
      have b1 : ((c : Int) == 65533) = true := by rw [beq_iff_eq]; omega
      have b2 : ((n : Int) == 1) = true := by rw [beq_iff_eq]; omega
      have HN := Lib.hid hn
      clear hn h1 h2
      go_enter Tryz.func156, Tryz.ntmps156
      go_wp2_with (go_at_call 106; refine HD.out.mono ?_; rintro e w1 ⟨rfl, hb1⟩)
      go_ret2
      exact ⟨by rw [HN.out]; rfl, hb1⟩
    · rw [if_neg (fun h => h2 h.2)] at hn
      have b1 : ((c : Int) == 65533) = true := by rw [beq_iff_eq]; omega
      have b2 : ((n : Int) == 1) = false := by rw [beq_eq_false_iff_ne]; omega
      have HN := Lib.hid hn
      clear hn h1 h2
      go_enter Tryz.func156, Tryz.ntmps156
      go_wp2_with (go_at_call 106; refine HD.out.mono ?_; rintro e w1 ⟨rfl, hb1⟩)
      go_ret2
      exact ⟨by rw [HN.out]; rfl, hb1⟩
  · rw [if_neg (fun h => h1 h.1)] at hn
    have b1 : ((c : Int) == 65533) = false := by rw [beq_eq_false_iff_ne]; omega
    have HN := Lib.hid hn
    clear hn h1
    go_enter Tryz.func156, Tryz.ntmps156
    go_wp2_with (go_at_call 106; refine HD.out.mono ?_; rintro e w1 ⟨rfl, hb1⟩)
    go_ret2
    exact ⟨by rw [HN.out]; rfl, hb1⟩
set_option maxRecDepth 20000 in
set_option maxHeartbeats 1000000 in
theorem rnext_any (b : Nat) (s : ByteArray) (x : Rd) (w : World) (hx : RdAt w b s x) (hr : Ready b w) (hp : x.at' ≤ s.size) :
    Calls Tryz.prog 130 #[.pointer (some ⟨b, 0, none⟩)] w fun e w' => e = .returned (.tuple #[.int .i64 (nx (s.data.toList.drop x.at')).1, .int .i64 (nx (s.data.toList.drop x.at')).2]) ∧ Below w.heap.size w w' := by
  obtain ⟨p, line, fail, code⟩ := x
  simp only at hp ⊢
  have hn := fun W h z hz => next_any s p W hp h z hz
  generalize nx (s.data.toList.drop p) = q at *
  obtain ⟨c, n⟩ := q
  have HN := Lib.hid hn
  have HR := Lib.hid hr
  obtain ⟨c0, c1, c2, c3, c4, f0, f1, f2, f3, f4⟩ := RdAt.facts hx
  clear hn hr hx
  go_enter Tryz.func130, Tryz.ntmps130
  go_wp2_with fail
  go_region_with (go_at_call 156; refine (HN.out _ (Ready.tabs (HR.out.bel (Below.drew (Below.refl _ _)))) _ rfl).mono ?_; rintro e w1 ⟨rfl, hb1⟩)
  all_goals go_wp2_with fail
  all_goals go_ret2
  all_goals exact ⟨rfl, (Below.drew (Below.refl _ _)).trans hb1⟩
set_option maxRecDepth 20000 in
set_option maxHeartbeats 1000000 in
/-- is: a short text at the reader's place. -/
theorem is_any (b : Nat) (s : ByteArray) (x : Rd) (p : ByteArray) (w : World) (hx : RdAt w b s x) (hp : x.at' ≤ s.size) :
    Calls Tryz.prog 136 #[.pointer (some ⟨b, 0, none⟩), .string p] w fun e w' => e = .returned (.bool (Lib.hasPrefix (s.data.toList.drop x.at') p.data.toList)) ∧ Below w.heap.size w w' := by
  obtain ⟨q, line, fail, code⟩ := x
  simp only at hp ⊢
  have hh := fun W => Tryz.strings_HasPrefix (s.extract q s.size) p W
  rw [extract_drop] at hh
  generalize Lib.hasPrefix (s.data.toList.drop q) p.data.toList = r at *
  have HH := Lib.hid hh
  obtain ⟨c0, c1, c2, c3, c4, f0, f1, f2, f3, f4⟩ := RdAt.facts hx
  clear hh hx
  go_enter Tryz.func136, Tryz.ntmps136
  go_wp2_with fail
  go_region_with (go_at_call 45; refine (HH.out _).mono ?_; rintro e w1 ⟨rfl, rfl⟩)
  all_goals go_wp2_with fail
  all_goals go_ret
  all_goals exact ⟨rfl, Below.drew (Below.refl _ _)⟩
set_option maxRecDepth 20000 in
set_option maxHeartbeats 1000000 in
theorem stop_any (b : Nat) (s : ByteArray) (x : Rd) (code at' : Int) (w : World) (hx : RdAt w b s x) :
    Calls Tryz.prog 138 #[.pointer (some ⟨b, 0, none⟩), .int .i64 code, .int .i64 at'] w fun e w' => e = .returned (.bool false) ∧ RdAt w' b s { x with fail := at', code := code } ∧ But b w w' := by
  have HX := Lib.hid hx
  obtain ⟨p, line, fl, cd⟩ := x
  obtain ⟨c0, c1, c2, c3, c4, f0, f1, f2, f3, f4⟩ := RdAt.facts hx
  clear hx
  go_enter Tryz.func138, Tryz.ntmps138
  go_wp2_with fail
  go_ret
  refine ⟨rfl, ?_, (((But.refl b w).setCell 4 _).setCell 3 _)⟩
  exact RdAt.set (x := ⟨p, line, fl, code⟩) (RdAt.set (x := ⟨p, line, fl, cd⟩) HX.out 4 _ rfl) 3 _ rfl
theorem nx_nil : nx [] = (65533, 0) := rfl
theorem nx_neg {l : List UInt8} (h : (nx l).2 < 0) : nx l = (0, -1) ∧ l ≠ [] := by
  unfold nx at h ⊢
  by_cases e : (Lib.decodeGo ⟨l.toArray⟩).1 = 65533 ∧ (Lib.decodeGo ⟨l.toArray⟩).2 = 1
  · simp only [if_pos e]
    refine ⟨trivial, fun he => ?_⟩
    subst he
    exact absurd e.2 (by decide)
  · simp only [if_neg e] at h
    omega
theorem nx_pos {l : List UInt8} (h : 0 ≤ (nx l).2) : ∃ n : Nat, (nx l).2 = n ∧ n ≤ l.length ∧ n ≤ 4 ∧ (l = [] ↔ n = 0) := by
  have h4 := (decodeGo_le ⟨l.toArray⟩).1
  by_cases hl : l = []
  · subst hl
    exact ⟨0, rfl, Nat.le_refl _, by decide, by simp⟩
  · unfold nx at h ⊢
    by_cases e : (Lib.decodeGo ⟨l.toArray⟩).1 = 65533 ∧ (Lib.decodeGo ⟨l.toArray⟩).2 = 1
    · simp only [if_pos e] at h
      omega
    · simp only [if_neg e]
      have hd : Lib.decodeGo ⟨l.toArray⟩ = Lib.decodeL l := by
        unfold Lib.decodeGo Lib.decodeL
        rw [if_neg]
        show l.length ≠ 0
        exact fun e => hl (List.length_eq_zero_iff.1 e)
      rw [hd] at h4 ⊢
      have h1 := Lib.decodeL_width l
      have h2 := Lib.decodeL_le l hl
      exact ⟨_, rfl, h2, h4, ⟨fun h => absurd h hl, fun h => by omega⟩⟩
theorem nx_ge (l : List UInt8) : -1 ≤ (nx l).2 := by
  by_cases h : 0 ≤ (nx l).2
  · omega
  · rw [(nx_neg (by omega)).1]
    decide
set_option maxRecDepth 20000 in
set_option maxHeartbeats 1000000 in
theorem pass_bad (b : Nat) (s : ByteArray) (x : Rd) (w : World) (hx : RdAt w b s x) (hr : Ready b w) (hp : x.at' ≤ s.size) (hn : (nx (s.data.toList.drop x.at')).2 < 0) :
    Calls Tryz.prog 135 #[.pointer (some ⟨b, 0, none⟩)] w fun e w' => e = .returned (.bool false) ∧ RdAt w' b s { x with fail := x.at', code := 502 } ∧ But b w w' := by
  have hN := rnext_any b s x w hx hr hp
  rw [(nx_neg hn).1] at hN
  have HX := Lib.hid hx
  have HN := Lib.hid hN
  clear hN hn hx hr
  obtain ⟨p, line, fl, cd⟩ := x
  go_enter Tryz.func135, Tryz.ntmps135
  go_wp2_with (first | (go_at_call 130; refine HN.out.mono ?_; rintro e w1 ⟨rfl, hb1⟩; have HX1 := Lib.hid (HX.out.bel hb1); obtain ⟨c0, c1, c2, c3, c4, f0, f1, f2, f3, f4⟩ := RdAt.facts HX1.out) | (go_at_call 138; refine (stop_any b s _ _ _ _ HX1.out).mono ?_; rintro e w2 ⟨rfl, hx2, hb2⟩))
  go_ret
  exact ⟨rfl, hx2, (But.of_below hb1).trans hb2⟩
set_option maxRecDepth 20000 in
set_option maxHeartbeats 1000000 in
theorem pass_good (b : Nat) (s : ByteArray) (x : Rd) (w : World) (n : Nat) (hx : RdAt w b s x) (hr : Ready b w) (hs : s.size ≤ 16777216) (hp : x.at' ≤ s.size) (hn : (nx (s.data.toList.drop x.at')).2 = n) :
    Calls Tryz.prog 135 #[.pointer (some ⟨b, 0, none⟩)] w fun e w' => e = .returned (.bool (decide (0 < n))) ∧ RdAt w' b s { x with at' := x.at' + n } ∧ But b w w' := by
  have hN := rnext_any b s x w hx hr hp
  have hle : n ≤ 4 := by
    obtain ⟨m, h1, _, h2, _⟩ := nx_pos (l := s.data.toList.drop x.at') (by omega)
    omega
  rw [hn] at hN
  generalize (nx (s.data.toList.drop x.at')).1 = c at *
  have HX := Lib.hid hx
  have HN := Lib.hid hN
  clear hN hn hx hr
  obtain ⟨p, line, fl, cd⟩ := x
  simp only at hp ⊢
  go_enter Tryz.func135, Tryz.ntmps135
  go_wp2_with (go_at_call 130; refine HN.out.mono ?_; rintro e w1 ⟨rfl, hb1⟩; have HX1 := Lib.hid (HX.out.bel hb1); obtain ⟨c0, c1, c2, c3, c4, f0, f1, f2, f3, f4⟩ := RdAt.facts HX1.out)
  go_ret
  refine ⟨?_, RdAt.set (x := ⟨p, line, fl, cd⟩) HX1.out 0 _ rfl, (But.of_below hb1).setCell 0 _⟩
  refine ret_bool ?_
  simp
/-- digit. -/
def digAt (l : List UInt8) : Bool := match l with
  | [] => false
  | c :: _ => decide (48 ≤ c.toNat ∧ c.toNat ≤ 57)
set_option maxRecDepth 20000 in
set_option maxHeartbeats 1000000 in
theorem ldigit_any (s : ByteArray) (p : Nat) (w : World) (z : Int) (hz : z = p) :
    Calls Tryz.prog 141 #[.string s, .int .i64 z] w fun e w' => e = .returned (.bool (digAt (s.data.toList.drop p))) ∧ w = w' := by
  subst hz
  by_cases hp : p < s.size
  · have hd := drop_cons s p hp
    have hc := s[p].toNat_lt
    have HV := Lib.hid (show digAt (s.data.toList.drop p) = decide (48 ≤ s[p].toNat ∧ s[p].toNat ≤ 57) by rw [hd]; rfl)
    clear hd
    by_cases h1 : 48 ≤ s[p].toNat
    · by_cases h2 : s[p].toNat ≤ 57
      · have HW := Lib.hid (HV.out.trans (decide_eq_true ⟨h1, h2⟩))
        go_enter Tryz.func141, Tryz.ntmps141
        go_wp2_with fail
        go_ret
        exact ⟨by rw [HW.out]; exact ret_bool (by simp; omega), rfl⟩
      · have HW := Lib.hid (HV.out.trans (decide_eq_false (fun h => h2 h.2)))
        go_enter Tryz.func141, Tryz.ntmps141
        go_wp2_with fail
        go_ret
        exact ⟨by rw [HW.out]; exact ret_bool (by simp; omega), rfl⟩
    · have HW := Lib.hid (HV.out.trans (decide_eq_false (fun h => h1 h.1)))
      go_enter Tryz.func141, Tryz.ntmps141
      go_wp2_with fail
      go_ret
      exact ⟨by rw [HW.out]; rfl, rfl⟩
  · have HW := Lib.hid (show digAt (s.data.toList.drop p) = false by rw [List.drop_of_length_le (by rw [ofl]; omega)]; rfl)
    go_enter Tryz.func141, Tryz.ntmps141
    go_wp2_with fail
    go_ret
    exact ⟨by rw [HW.out]; rfl, rfl⟩
end Go.Proofs.YteejjkfmmhegmaaGreatDoor
