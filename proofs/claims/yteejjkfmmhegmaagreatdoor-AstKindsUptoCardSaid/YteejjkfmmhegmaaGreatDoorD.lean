/- Contract of scan. Conditions: at most 2^24 bytes; MaxLen holds a number. -/
import Derived.Test.YteejjkfmmhegmaaGreatDoorC
namespace Go.Proofs.YteejjkfmmhegmaaGreatDoor
open Go.RowKit

theorem LitAt.facts {w : World} {b base : Nat} {whole part power : ByteArray} {point ex minus big : Bool} (h : LitAt w b ⟨base, whole, point, part, ex, minus, power, big⟩) :
    w.cell? ⟨b, 0, none⟩ = some (.int .i64 base) ∧ w.cell? ⟨b, 1, none⟩ = some (.string whole) ∧ w.cell? ⟨b, 2, none⟩ = some (.bool point) ∧ w.cell? ⟨b, 3, none⟩ = some (.string part) ∧ w.cell? ⟨b, 4, none⟩ = some (.bool ex) ∧ w.cell? ⟨b, 5, none⟩ = some (.bool minus) ∧ w.cell? ⟨b, 6, none⟩ = some (.string power) ∧ w.cell? ⟨b, 7, none⟩ = some (.bool big) ∧
    w.frozen? ⟨b, 0, none⟩ = false ∧ w.frozen? ⟨b, 1, none⟩ = false ∧ w.frozen? ⟨b, 2, none⟩ = false ∧ w.frozen? ⟨b, 3, none⟩ = false ∧ w.frozen? ⟨b, 4, none⟩ = false ∧ w.frozen? ⟨b, 5, none⟩ = false ∧ w.frozen? ⟨b, 6, none⟩ = false ∧ w.frozen? ⟨b, 7, none⟩ = false :=
  ⟨h.cell 0, h.cell 1, h.cell 2, h.cell 3, h.cell 4, h.cell 5, h.cell 6, h.cell 7, h.frozen 0, h.frozen 1, h.frozen 2, h.frozen 3, h.frozen 4, h.frozen 5, h.frozen 6, h.frozen 7⟩
/-- the literal, laid again in its own place. -/
theorem LitAt.again {w : World} {b base : Nat} {whole part power : ByteArray} {point ex minus big : Bool} (h : LitAt w b ⟨base, whole, point, part, ex, minus, power, big⟩) :
    LitAt ((((((((w.setCell ⟨b, 0, none⟩ (.int .i64 base)).setCell ⟨b, 1, none⟩ (.string whole)).setCell ⟨b, 2, none⟩ (.bool point)).setCell ⟨b, 3, none⟩ (.string part)).setCell ⟨b, 4, none⟩ (.bool ex)).setCell ⟨b, 5, none⟩ (.bool minus)).setCell ⟨b, 6, none⟩ (.string power)).setCell ⟨b, 7, none⟩ (.bool big)) b ⟨base, whole, point, part, ex, minus, power, big⟩ :=
  (LitAt.set (y := ⟨base, whole, point, part, ex, minus, power, big⟩) (LitAt.set (y := ⟨base, whole, point, part, ex, minus, power, big⟩) (LitAt.set (y := ⟨base, whole, point, part, ex, minus, power, big⟩) (LitAt.set (y := ⟨base, whole, point, part, ex, minus, power, big⟩) (LitAt.set (y := ⟨base, whole, point, part, ex, minus, power, big⟩) (LitAt.set (y := ⟨base, whole, point, part, ex, minus, power, big⟩) (LitAt.set (y := ⟨base, whole, point, part, ex, minus, power, big⟩) (LitAt.set (y := ⟨base, whole, point, part, ex, minus, power, big⟩) h 0 (.int .i64 base) rfl) 1 (.string whole) rfl) 2 (.bool point) rfl) 3 (.string part) rfl) 4 (.bool ex) rfl) 5 (.bool minus) rfl) 6 (.string power) rfl) 7 (.bool big) rfl)
theorem below_again {B b : Nat} {a w : World} {base : Nat} {whole part power : ByteArray} {point ex minus big : Bool} (h : Below B a w) (hb : B ≤ b) :
    Below B a ((((((((w.setCell ⟨b, 0, none⟩ (.int .i64 base)).setCell ⟨b, 1, none⟩ (.string whole)).setCell ⟨b, 2, none⟩ (.bool point)).setCell ⟨b, 3, none⟩ (.string part)).setCell ⟨b, 4, none⟩ (.bool ex)).setCell ⟨b, 5, none⟩ (.bool minus)).setCell ⟨b, 6, none⟩ (.string power)).setCell ⟨b, 7, none⟩ (.bool big)) :=
  (Below.setCell (Below.setCell (Below.setCell (Below.setCell (Below.setCell (Below.setCell (Below.setCell (Below.setCell h (p := ⟨b, 0, none⟩) hb (.int .i64 base)) (p := ⟨b, 1, none⟩) hb (.string whole)) (p := ⟨b, 2, none⟩) hb (.bool point)) (p := ⟨b, 3, none⟩) hb (.string part)) (p := ⟨b, 4, none⟩) hb (.bool ex)) (p := ⟨b, 5, none⟩) hb (.bool minus)) (p := ⟨b, 6, none⟩) hb (.string power)) (p := ⟨b, 7, none⟩) hb (.bool big))
theorem run_lit {w : World} {b : Nat} {x : Lit} (h : LitAt w b x) : (loadVar 76 ⟨b, 0, none⟩).run Tryz.prog w = .ok x.val w :=
  run_loadVar_row w b 76 76 x.cells (0, 0) _ h Tryz.underlying76 rfl (by kernel_rfl)
theorem results_lit3 {fn : Func} {p u v : Tmp} (h : fn.results = #[.cell p 76, .tmp u, .tmp v]) (tmps : Array Value) (w : World) (b : Nat) (x : Lit) (hp : tmps.getD p undef = .pointer (some ⟨b, 0, none⟩)) (hx : LitAt w b x) :
    (results fn tmps).run Tryz.prog w = .ok (.tuple #[x.val, tmps.getD u undef, tmps.getD v undef]) w := by
  have hp' : tmps[p]?.getD undef = .pointer (some ⟨b, 0, none⟩) := by simpa using hp
  simp [results, h, hp', asAddr, run_lit hx]
theorem results_lit2 {fn : Func} {p u : Tmp} (h : fn.results = #[.cell p 76, .tmp u]) (tmps : Array Value) (w : World) (b : Nat) (x : Lit) (hp : tmps.getD p undef = .pointer (some ⟨b, 0, none⟩)) (hx : LitAt w b x) :
    (results fn tmps).run Tryz.prog w = .ok (.tuple #[x.val, tmps.getD u undef]) w := by
  have hp' : tmps[p]?.getD undef = .pointer (some ⟨b, 0, none⟩) := by simpa using hp
  simp [results, h, hp', asAddr, run_lit hx]
def runB (b : Nat) (s : ByteArray) : ByteArray × ByteArray := (s.extract 0 (runN b false s.data.toList), s.extract (runN b false s.data.toList) s.size)
def emp : ByteArray := ⟨#[]⟩
def litZ : Lit := ⟨0, emp, false, emp, false, false, emp, false⟩
/-- is it a literal of another base? -/
def isOth (s : ByteArray) : Bool := if h : 2 < s.size then (s[0] == 48) && ((s[1].toNat ||| 32) == 120 || (s[1].toNat ||| 32) == 111 || (s[1].toNat ||| 32) == 98) && decide (65 ≤ s[1].toNat) else false
def scanOth (s : ByteArray) : Lit × ByteArray × Bool :=
  let r := runB (s.data.toList[1]!.toNat ||| 32) (s.extract 2 s.size)
  (⟨16, r.1, false, emp, false, false, emp, Lib.hasPrefix r.2.data.toList [110]⟩, ⟨(Lib.trimPrefix r.2.data.toList [110]).toArray⟩, decide (0 < r.1.size))
def wholeO (s : ByteArray) : ByteArray × ByteArray := if Lib.hasPrefix s.data.toList [48] = true then (⟨#[48]⟩, s.extract 1 s.size) else runB 0 s
def partO (s : ByteArray) : Bool × ByteArray × ByteArray := if Lib.hasPrefix s.data.toList [46] = true then (true, runB 0 (s.extract 1 s.size)) else (false, emp, s)
def lit10 (w : ByteArray) (pt : Bool) (p : ByteArray) : Lit := ⟨10, w, pt, p, false, false, emp, false⟩
def expL (x : Lit) (s : ByteArray) : Lit × ByteArray := match expO s with
  | none => (x, s)
  | some (m, p, r) => ({ x with ex := true, minus := m, power := p }, r)
def bigL (x : Lit) (s : ByteArray) : Lit × ByteArray := if (!x.point && !x.ex && Lib.hasPrefix s.data.toList [110]) = true then ({ x with big := true }, s.extract 1 s.size) else (x, s)
def scanDec (s : ByteArray) : Lit × ByteArray × Bool :=
  let w := wholeO s
  let p := partO w.2
  if (decide (w.1.size = 0) && decide (p.2.1.size = 0)) = true then (lit10 w.1 p.1 p.2.1, p.2.2, false)
  else
    let e := expL (lit10 w.1 p.1 p.2.1) p.2.2
    let g := bigL e.1 e.2
    (g.1, g.2, true)
def scanB (s : ByteArray) : Lit × ByteArray × Bool := if isOth s = true then scanOth s else scanDec s
theorem runB_size (b : Nat) (s : ByteArray) : (runB b s).2.size ≤ s.size ∧ (runB b s).1.size ≤ s.size := by
  unfold runB
  simp only [ByteArray.size_extract]
  omega
theorem wholeO_size (s : ByteArray) : (wholeO s).2.size ≤ s.size := by
  unfold wholeO
  split
  · simp only [ByteArray.size_extract]; omega
  · exact (runB_size 0 s).1
theorem partO_size (s : ByteArray) : (partO s).2.2.size ≤ s.size := by
  unfold partO
  split
  · have := (runB_size 0 (s.extract 1 s.size)).1
    rw [ByteArray.size_extract] at this
    simp only
    omega
  · exact Nat.le_refl _
theorem powO_size (m : Bool) (d : ByteArray) {q} (h : powO m d = some q) : q.2.2.size ≤ d.size := by
  unfold powO at h
  split at h
  · cases h
  · cases h
    simp only [ByteArray.size_extract]
    omega
theorem expL_size (x : Lit) (s : ByteArray) : (expL x s).2.size ≤ s.size := by
  unfold expL
  cases h : expO s with
  | none => exact Nat.le_refl _
  | some q =>
    obtain ⟨m, p, r⟩ := q
    unfold expO at h
    split at h
    · split at h
      · have h1 := powO_size _ _ h
        have h2 := signO_size (s.extract 1 s.size)
        rw [ByteArray.size_extract] at h2
        simp only at h1 ⊢
        omega
      · cases h
    · cases h
theorem size_bool (A : ByteArray) : decide (0 < A.size) = !A.toList.isEmpty := by
  by_cases h : 0 < A.size
  · rw [isEmpty_pos h, decide_eq_true h]; rfl
  · rw [isEmpty_zero (show A.size = 0 by omega), decide_eq_false h]; rfl
theorem LitAt.drew {w : World} {b : Nat} {x : Lit} (h : LitAt w b x) : LitAt w.drew b x := h
theorem isOth_size {s : ByteArray} (h : isOth s = true) : 2 < s.size := by
  unfold isOth at h
  split at h
  · assumption
  · cases h
theorem size_of_empty {s : ByteArray} (h : s.toList.isEmpty = true) : s.size = 0 := by
  rw [Lib.toList_data] at h
  rw [← ofl, List.isEmpty_iff.1 h]
  rfl
theorem xob_ge (c : UInt8) : decide (0 ≤ Lib.indexByte [120, 111, 98] c) = (c.toNat == 120 || c.toNat == 111 || c.toNat == 98) := by
  have g : ∀ n : Fin 256, decide (0 ≤ Lib.indexByte [120, 111, 98] (UInt8.ofNat n.val)) = (n.val == 120 || n.val == 111 || n.val == 98) := by decide +kernel
  have := g ⟨c.toNat, c.toNat_lt⟩
  simpa using this

set_option maxRecDepth 100000 in
set_option maxHeartbeats 1000000 in
theorem scan_any (s : ByteArray) (w : World) (hs : s.size ≤ 16777216) (hM : MaxAt w) :
    Calls Tryz.prog 105 #[.string s] w fun e w' => e = .returned (.tuple #[(scanB s).1.val, .string (scanB s).2.1, .bool (scanB s).2.2]) ∧ Below w.heap.size w w' := by
  have HM := Lib.hid hM
  clear hM
  go_enter Tryz.func105, Tryz.ntmps105
  go_upto_region 1 with fail
  go_cut [25] from 6 to 24 (fun v wx => v = .bool (isOth s) ∧ wx = w.alloc (.cells litZ.cells 76))
  case first =>
    clear HM
    by_cases h2 : 2 < s.size
    · have h1 : 1 < s.size := by omega
      have h0 : 0 < s.size := by omega
      have hO : isOth s = ((s[0] == 48) && ((s[1].toNat ||| 32) == 120 || (s[1].toNat ||| 32) == 111 || (s[1].toNat ||| 32) == 98) && decide (65 ≤ s[1].toNat)) := by unfold isOth; rw [dif_pos h2]
      have ho := or32 s[1]
      have hx := xob_ge (UInt8.ofNat (s[1].toNat ||| 32))
      rw [show (UInt8.ofNat (s[1].toNat ||| 32)).toNat = (s[1].toNat ||| 32) by rw [UInt8.toNat_ofNat']; have := or32_lt s[1]; omega] at hx
      have hI := fun W => Tryz.strings_IndexByte ⟨#[120, 111, 98]⟩ ((s[1].toNat ||| 32 : Nat) : Int) W
      rw [show (ByteArray.mk #[120, 111, 98]).data.toList = [120, 111, 98] from rfl] at hI
      simp only [Int.toNat_natCast] at hI
      rw [show (s[1].toNat ||| 32).toUInt8 = UInt8.ofNat (s[1].toNat ||| 32) from rfl] at hI
      rw [← hx] at hO
      generalize Lib.indexByte [120, 111, 98] (UInt8.ofNat (s[1].toNat ||| 32)) = iv at *
      have HI := Lib.hid hI
      have HO := Lib.hid hO
      clear hI hO hx
      by_cases h48 : s[0] = 48
      · have b0 : (((s[0].toNat : Nat) : Int) == 48) = true := eq_fact h48
        rw [h48] at HO
        clear h48
        by_cases hi : 0 ≤ iv
        · by_cases h65 : 65 ≤ s[1].toNat
          · have HO2 := Lib.hid (show isOth s = true by rw [HO.out]; simp [hi, h65])
            go_wp2_with (go_at_call 123; refine (HI.out _).mono ?_; rintro e w6 ⟨rfl, rfl⟩)
            go_meet
            exact ⟨by rw [HO2.out, decide_eq_true (show (65 : Int) ≤ (s[1].toNat : Int) by omega)], rfl⟩
          · have HO2 := Lib.hid (show isOth s = false by rw [HO.out]; simp [hi, h65])
            go_wp2_with (go_at_call 123; refine (HI.out _).mono ?_; rintro e w6 ⟨rfl, rfl⟩)
            go_meet
            exact ⟨by rw [HO2.out, decide_eq_false (show ¬ (65 : Int) ≤ (s[1].toNat : Int) by omega)], rfl⟩
        · have HO2 := Lib.hid (show isOth s = false by rw [HO.out]; simp [hi])
          go_wp2_with (go_at_call 123; refine (HI.out _).mono ?_; rintro e w6 ⟨rfl, rfl⟩)
          go_meet
          exact ⟨by rw [HO2.out], rfl⟩
      · have b0 : (((s[0].toNat : Nat) : Int) == 48) = false := ne_fact h48
        have HO2 := Lib.hid (show isOth s = false by rw [HO.out]; simp [h48])
        clear h48
        go_wp2_with fail
        go_meet
        exact ⟨by rw [HO2.out], rfl⟩
    · have HO2 := Lib.hid (show isOth s = false by unfold isOth; rw [dif_neg h2])
      go_wp2_with fail
      go_meet
      exact ⟨by rw [HO2.out], rfl⟩
  case rest =>
    obtain ⟨rfl, hwc⟩ := hcut
    have hL : LitAt wc w.heap.size litZ := by rw [hwc]; exact heap_alloc_new _ _
    have hB : Below w.heap.size w wc := by rw [hwc]; exact (Below.refl _ _).alloc (Nat.le_refl _) _
    clear hwc
    cases ho : isOth s with
    | true =>
      have h2 : 2 < s.size := isOth_size ho
      have h1 : 1 < s.size := by omega
      have hor := or32 s[1]
      have hlt := or32_lt s[1]
      have hB0 : scanB s = scanOth s := by unfold scanB; rw [if_pos ho]
      unfold scanOth at hB0
      rw [show s.data.toList[1]! = s[1] from getElem!_pos s.data.toList 1 (by rw [ofl]; exact h1)] at hB0
      have hds : (s.extract 2 s.size).size ≤ 16777216 := by rw [ByteArray.size_extract]; omega
      generalize hD : s.extract 2 s.size = D at *
      generalize hbv : s[1].toNat ||| 32 = bv at *
      have hR := fun W' => run_any D bv W' hlt hds
      have hR2 : ∀ W' : World, Calls Tryz.prog 124 #[.string D, .int .u8 bv] W' fun e w' => e = .returned (.tuple #[.string (runB bv D).1, .string (runB bv D).2]) ∧ Below W'.heap.size W' w' := hR
      clear hR
      generalize runB bv D = rr at *
      obtain ⟨A, B⟩ := rr
      simp only at hB0 hR2
      have HR := Lib.hid hR2
      have HB0 := Lib.hid hB0
      have HH := Lib.hid (Tryz.strings_HasPrefix B ⟨#[110]⟩)
      have HT := Lib.hid (Tryz.strings_TrimPrefix B ⟨#[110]⟩)
      rw [show (ByteArray.mk #[110]).data.toList = [110] from rfl] at HH HT
      obtain ⟨c0, c1, c2, c3, c4, c5, c6, c7, f0, f1, f2, f3, f4, f5, f6, f7⟩ := LitAt.facts hL
      have HL := Lib.hid hL
      clear hL hR2 hB0 ho
      go_upto_region 4 with fail
      have hL2 := LitAt.set (y := ⟨16, emp, false, emp, false, false, emp, false⟩) HL.out 0 (.int .i64 16) rfl
      have hB2 : Below w.heap.size w (wc.setCell ⟨w.heap.size, 0, none⟩ (.int .i64 16)) := hB.setCell (Nat.le_refl _) _
      clear c0 c1 c2 c3 c4 c5 c6 c7 f0 f1 f2 f3 f4 f5 f6 f7
      generalize wc.setCell ⟨w.heap.size, 0, none⟩ (.int .i64 16) = w2 at *
      have HL2 := Lib.hid hL2
      clear hL2 HL hB
      go_upto_region 5 with (go_at_call 124; refine (HR.out _).mono ?_; rintro e w3 ⟨rfl, hb3⟩; obtain ⟨c0, c1, c2, c3, c4, c5, c6, c7, f0, f1, f2, f3, f4, f5, f6, f7⟩ := LitAt.facts (HL2.out.below hb3 HL2.out.lt))
      have hL4 := LitAt.set (y := ⟨16, A, false, emp, false, false, emp, false⟩) (HL2.out.below hb3 HL2.out.lt) 1 (.string A) rfl
      have hB4 : Below w.heap.size w (w3.setCell ⟨w.heap.size, 1, none⟩ (.string A)) := (bel_next hB2 hb3).setCell (Nat.le_refl _) _
      clear c0 c1 c2 c3 c4 c5 c6 c7 f0 f1 f2 f3 f4 f5 f6 f7
      generalize w3.setCell ⟨w.heap.size, 1, none⟩ (.string A) = w4 at *
      obtain ⟨c0, c1, c2, c3, c4, c5, c6, c7, f0, f1, f2, f3, f4, f5, f6, f7⟩ := LitAt.facts hL4
      have HL4 := Lib.hid hL4
      clear hL4
      go_upto_region 6 with (go_at_call 45; refine (HH.out _).mono ?_; rintro e w5 ⟨rfl, rfl⟩)
      have hL6 := LitAt.set (y := ⟨16, A, false, emp, false, false, emp, Lib.hasPrefix B.data.toList [110]⟩) HL4.out 7 (.bool (Lib.hasPrefix B.data.toList [110])) rfl
      have hB6 : Below w.heap.size w (w5.setCell ⟨w.heap.size, 7, none⟩ (.bool (Lib.hasPrefix B.data.toList [110]))) := hB4.setCell (Nat.le_refl _) _
      clear c0 c1 c2 c3 c4 c5 c6 c7 f0 f1 f2 f3 f4 f5 f6 f7
      generalize w5.setCell ⟨w.heap.size, 7, none⟩ (.bool (Lib.hasPrefix B.data.toList [110])) = w7 at *
      obtain ⟨c0, c1, c2, c3, c4, c5, c6, c7, f0, f1, f2, f3, f4, f5, f6, f7⟩ := LitAt.facts hL6
      have HL6 := Lib.hid hL6
      clear hL6
      go_cut [3, 4] (fun t v wx => t = .string ⟨(Lib.trimPrefix B.data.toList [110]).toArray⟩ ∧ v = .bool (!A.toList.isEmpty) ∧ LitAt wx w.heap.size ⟨16, A, false, emp, false, false, emp, Lib.hasPrefix B.data.toList [110]⟩ ∧ Below w.heap.size w wx)
      case first =>
        clear HB0 HR HH
        go_region_with (go_at_call 78; refine (HT.out _).mono ?_; rintro e w8 ⟨rfl, rfl⟩)
        all_goals go_wp2_with fail
        all_goals go_meet
        all_goals exact ⟨rfl, rfl, LitAt.drew (LitAt.again HL6.out), (below_again hB6 (Nat.le_refl _)).drew⟩
      case rest =>
        obtain ⟨rfl, rfl, hL9, hB9⟩ := hcut
        go_wp2_with fail
        (try simp only [Exit.inBlock, Exit.then])
        refine bodyPost_ret (results_lit3 rfl _ _ _ _ rfl hL9) rfl ?_
        rw [HB0.out]
        exact ⟨by rw [size_bool A]; rfl, hB9⟩
    | false =>
      obtain ⟨c0, c1, c2, c3, c4, c5, c6, c7, f0, f1, f2, f3, f4, f5, f6, f7⟩ := LitAt.facts hL
      have HL := Lib.hid hL
      clear hL
      go_upto_region 8 with fail
      have hL2 : LitAt (wc.setCell ⟨w.heap.size, 0, none⟩ (.int .i64 10)) w.heap.size (lit10 emp false emp) := LitAt.set HL.out 0 _ rfl
      have hB2 : Below w.heap.size w (wc.setCell ⟨w.heap.size, 0, none⟩ (.int .i64 10)) := hB.setCell (Nat.le_refl _) _
      clear c0 c1 c2 c3 c4 c5 c6 c7 f0 f1 f2 f3 f4 f5 f6 f7 hB HL
      generalize wc.setCell ⟨w.heap.size, 0, none⟩ (.int .i64 10) = w2 at *
      have hH := Tryz.strings_HasPrefix s ⟨#[48]⟩
      rw [show (ByteArray.mk #[48]).data.toList = [48] from rfl] at hH
      have HH := Lib.hid hH
      clear hH
      go_upto_if 49 with (go_at_call 45; refine (HH.out _).mono ?_; rintro e w2 ⟨rfl, rfl⟩)
      go_cut [0] (fun t wx => t = .string (wholeO s).2 ∧ LitAt wx w.heap.size (lit10 (wholeO s).1 false emp) ∧ Below w.heap.size w wx)
      case first =>
        have HL := Lib.hid hL2
        clear hL2
        cases hp : Lib.hasPrefix s.data.toList [48] with
        | true =>
          have HW := Lib.hid (show wholeO s = (⟨#[48]⟩, s.extract 1 s.size) by unfold wholeO; rw [if_pos hp])
          have hpos := hasPrefix_pos hp
          clear hp HH
          obtain ⟨c0, c1, c2, c3, c4, c5, c6, c7, f0, f1, f2, f3, f4, f5, f6, f7⟩ := LitAt.facts HL.out
          go_wp2_with fail
          go_region
          all_goals go_wp2_with fail
          all_goals go_meet
          all_goals rw [HW.out]
          all_goals exact ⟨rfl, LitAt.set (x := lit10 emp false emp) HL.out 1 _ rfl, (hB2.setCell (p := ⟨w.heap.size, 1, none⟩) (Nat.le_refl _) _).drew⟩
        | false =>
          have HW := Lib.hid (show wholeO s = runB 0 s by unfold wholeO; rw [if_neg (by rw [hp]; decide)])
          have hR := run_any s 0 w2 (by decide) hs
          have HR := Lib.hid hR
          clear hp HH hR
          go_wp2_with (go_at_call 124; refine HR.out.mono ?_; rintro e w3 ⟨rfl, hb3⟩; obtain ⟨c0, c1, c2, c3, c4, c5, c6, c7, f0, f1, f2, f3, f4, f5, f6, f7⟩ := LitAt.facts (HL.out.below hb3 HL.out.lt))
          go_meet
          rw [HW.out]
          have hL3 := HL.out.below hb3 HL.out.lt
          exact ⟨rfl, LitAt.set (x := lit10 emp false emp) hL3 1 _ rfl, (hB2.trans (hb3.mono hB2.size)).setCell (Nat.le_refl _) _⟩
      case rest =>
        obtain ⟨rfl, hL3, hB3⟩ := hcut
        have hs1 : (wholeO s).2.size ≤ 16777216 := Nat.le_trans (wholeO_size s) hs
        have hBdec : scanB s = scanDec s := by unfold scanB; rw [if_neg (by rw [ho]; decide)]
        unfold scanDec at hBdec
        generalize wholeO s = wo at *
        obtain ⟨W, s1⟩ := wo
        simp only at hL3 hs1 hBdec
        have HBD := Lib.hid hBdec
        clear hBdec HH hB2 hL2 ho
        rename_i w2'
        have hH := Tryz.strings_HasPrefix s1 ⟨#[46]⟩
        rw [show (ByteArray.mk #[46]).data.toList = [46] from rfl] at hH
        have HH := Lib.hid hH
        clear hH
        have HL := Lib.hid hL3
        clear hL3
        go_upto_if 60 with (go_at_call 45; refine (HH.out _).mono ?_; rintro e w2 ⟨rfl, rfl⟩)
        rename_i w4
        go_cut [0] (fun t wx => t = .string (partO s1).2.2 ∧ LitAt wx w.heap.size (lit10 W (partO s1).1 (partO s1).2.1) ∧ Below w.heap.size w wx)
        case first =>
          cases hp : Lib.hasPrefix s1.data.toList [46] with
          | true =>
            have HW := Lib.hid (show partO s1 = (true, runB 0 (s1.extract 1 s1.size)) by unfold partO; rw [if_pos hp])
            have hpos := hasPrefix_pos hp
            have hds : (s1.extract 1 s1.size).size ≤ 16777216 := by rw [ByteArray.size_extract]; omega
            generalize hD : s1.extract 1 s1.size = D at *
            have HR := Lib.hid (fun W' => run_any D 0 W' (by decide) hds)
            clear hp HH HBD
            obtain ⟨c0, c1, c2, c3, c4, c5, c6, c7, f0, f1, f2, f3, f4, f5, f6, f7⟩ := LitAt.facts HL.out
            go_upto_region 13 with fail
            have hL5 := LitAt.set (y := lit10 W true emp) HL.out 2 (.bool true) rfl
            have hB5 : Below w.heap.size w (w2.setCell ⟨w.heap.size, 2, none⟩ (.bool true)) := hB3.setCell (Nat.le_refl _) _
            clear c0 c1 c2 c3 c4 c5 c6 c7 f0 f1 f2 f3 f4 f5 f6 f7
            generalize w2.setCell ⟨w.heap.size, 2, none⟩ (.bool true) = w5 at *
            have HL5 := Lib.hid hL5
            clear hL5
            go_wp2_with (go_at_call 124; refine (HR.out _).mono ?_; rintro e w3 ⟨rfl, hb3⟩; obtain ⟨c0, c1, c2, c3, c4, c5, c6, c7, f0, f1, f2, f3, f4, f5, f6, f7⟩ := LitAt.facts (HL5.out.below hb3 HL5.out.lt))
            go_meet
            rw [HW.out]
            have hL6 := HL5.out.below hb3 HL5.out.lt
            exact ⟨rfl, LitAt.set (x := lit10 W true emp) hL6 3 _ rfl, (hB5.trans (hb3.mono hB5.size)).setCell (Nat.le_refl _) _⟩
          | false =>
            have HW := Lib.hid (show partO s1 = (false, emp, s1) by unfold partO; rw [if_neg (by rw [hp]; decide)])
            clear hp HH HBD
            go_wp2_with fail
            go_meet
            rw [HW.out]
            exact ⟨rfl, HL.out, hB3⟩
        case rest =>
          obtain ⟨rfl, hL6, hB6⟩ := hcut
          have hs2 : (partO s1).2.2.size ≤ 16777216 := Nat.le_trans (partO_size s1) hs1
          have hBdec := HBD.out
          generalize partO s1 = po at *
          obtain ⟨pt, P, s2⟩ := po
          simp only at hL6 hs2 hBdec
          have HBD2 := Lib.hid hBdec
          clear hBdec HH HL hB3 HBD
          have HL := Lib.hid hL6
          clear hL6
          obtain ⟨c0, c1, c2, c3, c4, c5, c6, c7, f0, f1, f2, f3, f4, f5, f6, f7⟩ := LitAt.facts HL.out
          go_upto_region 14 with fail
          go_cut [76] from 69 to 75 (fun v wx => v = .bool (W.toList.isEmpty && P.toList.isEmpty) ∧ wx = wc)
          case first =>
            clear HBD2
            cases he1 : W.toList.isEmpty with
            | true =>
              have H1 := Lib.hid he1
              go_wp2_with fail
              go_meet
              exact ⟨by rw [H1.out]; rfl, rfl⟩
            | false =>
              have H1 := Lib.hid he1
              go_wp2_with fail
              go_meet
              exact ⟨by rw [H1.out]; rfl, rfl⟩
          case rest =>
            obtain ⟨rfl, hwc⟩ := hcut
            subst hwc
            cases hb : (W.toList.isEmpty && P.toList.isEmpty) with
            | true =>
              have hb2 : W.toList.isEmpty = true ∧ P.toList.isEmpty = true := by simpa using hb
              have HS := Lib.hid (show scanB s = (lit10 W pt P, s2, false) by rw [HBD2.out, if_pos (by simp [size_of_empty hb2.1, size_of_empty hb2.2])])
              clear hb hb2 HBD2
              go_wp2_with fail
              (try simp only [Exit.inBlock, Exit.then])
              refine bodyPost_ret (results_lit3 rfl _ _ _ _ rfl (LitAt.again HL.out)) rfl ?_
              rw [HS.out]
              exact ⟨rfl, below_again hB6 (Nat.le_refl _)⟩
            | false =>
              have hS : scanB s = ((bigL (expL (lit10 W pt P) s2).1 (expL (lit10 W pt P) s2).2).1, (bigL (expL (lit10 W pt P) s2).1 (expL (lit10 W pt P) s2).2).2, true) := by
                rw [HBD2.out, if_neg (by
                  simp only [Bool.and_eq_true, decide_eq_true_eq]
                  rintro ⟨h1, h2⟩
                  rw [isEmpty_zero h1, isEmpty_zero h2] at hb
                  cases hb)]
              have HS := Lib.hid hS
              have hM2 := HM.out.below hB6
              have hE0 := exp_any w.heap.size (lit10 W pt P) s2 _ HL.out hs2 hM2
              have HE := Lib.hid hE0
              clear hb HBD2 hS hM2 hE0
              go_upto_region 16 with fail
              go_cut [0] (fun t wx => t = .string (expL (lit10 W pt P) s2).2 ∧ LitAt wx w.heap.size (expL (lit10 W pt P) s2).1 ∧ Below w.heap.size w wx)
              case first =>
                clear c0 c1 c2 c3 c4 c5 c6 c7 f0 f1 f2 f3 f4 f5 f6 f7
                have hE := HE.out
                cases heo : expO s2 with
                | none =>
                  have HX := Lib.hid (show expL (lit10 W pt P) s2 = (lit10 W pt P, s2) by unfold expL; rw [heo])
                  rw [heo] at hE
                  have HE2 := Lib.hid hE
                  clear hE HE heo HS
                  go_wp2_with (go_at_call 125; refine HE2.out.mono ?_; rintro e w5 ⟨rfl, hb5⟩)
                  go_meet
                  rw [HX.out]
                  exact ⟨rfl, HL.out.below hb5 HL.out.lt, bel_next hB6 hb5⟩
                | some q =>
                  obtain ⟨m, pw, r⟩ := q
                  have HX := Lib.hid (show expL (lit10 W pt P) s2 = ({ lit10 W pt P with ex := true, minus := m, power := pw }, r) by unfold expL; rw [heo])
                  rw [heo] at hE
                  have HE2 := Lib.hid hE
                  clear hE HE heo HS
                  go_wp2_with (go_at_call 125; refine HE2.out.mono ?_; rintro e w5 ⟨rfl, hl5, hb5⟩)
                  go_meet
                  rw [HX.out]
                  exact ⟨rfl, hl5, hB6.trans hb5⟩
              case rest =>
                obtain ⟨rfl, hL7, hB7⟩ := hcut
                have hs3 : (expL (lit10 W pt P) s2).2.size ≤ 16777216 := Nat.le_trans (expL_size _ _) hs2
                have hS2 := HS.out
                generalize expL (lit10 W pt P) s2 = xe at *
                obtain ⟨⟨base, whole, point, part, ex, minus, power, big⟩, s3⟩ := xe
                simp only at hL7 hs3 hS2
                clear c0 c1 c2 c3 c4 c5 c6 c7 f0 f1 f2 f3 f4 f5 f6 f7
                obtain ⟨c0, c1, c2, c3, c4, c5, c6, c7, f0, f1, f2, f3, f4, f5, f6, f7⟩ := LitAt.facts hL7
                have HL7 := Lib.hid hL7
                have HS2 := Lib.hid hS2
                have HH := Lib.hid (Tryz.strings_HasPrefix s3 ⟨#[110]⟩)
                rw [show (ByteArray.mk #[110]).data.toList = [110] from rfl] at HH
                clear hL7 hS2 HE HS HL hB6
                cases hpt : point with
                | true =>
                  subst hpt
                  have HF := Lib.hid (HS2.out.trans (show _ = ((⟨base, whole, true, part, ex, minus, power, big⟩ : Lit), s3, true) from rfl))
                  clear HS2
                  go_wp2_with fail
                  (try simp only [Exit.inBlock, Exit.then])
                  refine bodyPost_ret (results_lit3 rfl _ _ _ _ rfl (LitAt.again HL7.out)) rfl ?_
                  rw [HF.out]
                  exact ⟨rfl, below_again hB7 (Nat.le_refl _)⟩
                | false =>
                  subst hpt
                  cases hex : ex with
                  | true =>
                    subst hex
                    have HF := Lib.hid (HS2.out.trans (show _ = ((⟨base, whole, false, part, true, minus, power, big⟩ : Lit), s3, true) from rfl))
                    clear HS2
                    go_wp2_with fail
                    (try simp only [Exit.inBlock, Exit.then])
                    refine bodyPost_ret (results_lit3 rfl _ _ _ _ rfl (LitAt.again HL7.out)) rfl ?_
                    rw [HF.out]
                    exact ⟨rfl, below_again hB7 (Nat.le_refl _)⟩
                  | false =>
                    subst hex
                    cases hpn : Lib.hasPrefix s3.data.toList [110] with
                    | true =>
                      have HF := Lib.hid (HS2.out.trans (show _ = ((⟨base, whole, false, part, false, minus, power, true⟩ : Lit), s3.extract 1 s3.size, true) by unfold bigL; simp [hpn]))
                      have hpos := hasPrefix_pos hpn
                      rw [hpn] at HH
                      clear HS2 hpn
                      go_upto_region 19 with (go_at_call 45; refine (HH.out _).mono ?_; rintro e w6 ⟨rfl, rfl⟩)
                      have hL8 := LitAt.set (y := ⟨base, whole, false, part, false, minus, power, true⟩) HL7.out 7 (.bool true) rfl
                      have hB8 : Below w.heap.size w (w6.setCell ⟨w.heap.size, 7, none⟩ (.bool true)) := hB7.setCell (Nat.le_refl _) _
                      clear c0 c1 c2 c3 c4 c5 c6 c7 f0 f1 f2 f3 f4 f5 f6 f7
                      generalize w6.setCell ⟨w.heap.size, 7, none⟩ (.bool true) = w7 at *
                      obtain ⟨c0, c1, c2, c3, c4, c5, c6, c7, f0, f1, f2, f3, f4, f5, f6, f7⟩ := LitAt.facts hL8
                      have HL8 := Lib.hid hL8
                      clear hL8
                      go_wp2_with fail
                      (try simp only [Exit.inBlock, Exit.then])
                      refine bodyPost_ret (results_lit3 rfl _ _ _ _ rfl (LitAt.again HL8.out)) rfl ?_
                      rw [HF.out]
                      exact ⟨rfl, below_again hB8 (Nat.le_refl _)⟩
                    | false =>
                      have HF := Lib.hid (HS2.out.trans (show _ = ((⟨base, whole, false, part, false, minus, power, big⟩ : Lit), s3, true) by unfold bigL; simp [hpn]))
                      rw [hpn] at HH
                      clear HS2 hpn
                      go_wp2_with (go_at_call 45; refine (HH.out _).mono ?_; rintro e w6 ⟨rfl, rfl⟩)
                      (try simp only [Exit.inBlock, Exit.then])
                      refine bodyPost_ret (results_lit3 rfl _ _ _ _ rfl (LitAt.again HL7.out)) rfl ?_
                      rw [HF.out]
                      exact ⟨rfl, below_again hB7 (Nat.le_refl _)⟩
end Go.Proofs.YteejjkfmmhegmaaGreatDoor
