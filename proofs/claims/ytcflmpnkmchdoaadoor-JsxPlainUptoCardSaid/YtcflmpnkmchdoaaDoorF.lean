/- strings.IndexAny at the two signs that end a line (10 and 13), at every text up to 2^24 bytes, valid UTF-8 or not. -/
import Derived.Test.YtcflmpnkmchdoaaDoorE
import Derived.Lib.OthersKept
import Derived.Lib.IndexAny
namespace Go.Proofs.YtcflmpnkmchdoaaDoor
open Go.RowKit

/-- the bytes of "\n\r". -/
abbrev crlf : ByteArray := ⟨#[10, 13]⟩
/-- where a character stands in them. -/
def crlfAt (r : Nat) : Int := if r = 10 then 0 else if r = 13 then 1 else -1

set_option maxRecDepth 1000000 in
set_option maxHeartbeats 1000000 in
theorem indexRune_bad (w : World) :
    Calls Tryd.prog 56 #[.string crlf, .int .i32 65533] w fun e w' => e = .returned (.int .i64 (-1)) ∧ Below w.heap.size w w' := by
  unfold crlf
  go_enter Tryd.func56, Tryd.ntmps56
  go_wp2_with fail
  go_loopg [5, 6] 2 (fun g _ _ wx => ∃ i : Nat, i + g = 2 ∧ wx = w.iter ⟨#[10, 13]⟩ i)
  case atStart => exact ⟨0, by omega, rfl⟩
  case round =>
    obtain ⟨i, hig, rfl⟩ := hrel
    cases gk with
    | zero =>
      obtain rfl : i = 2 := by omega
      have hnx := fun ty => run_next_end (P := Tryd.prog) w ⟨#[10, 13]⟩ 2 ty (by decide)
      go_wp2_with fail
      go_ret
      exact ⟨rfl, (Below.refl _ _).alloc (Nat.le_refl _) _⟩
    | succ g =>
      have hi : i = 0 ∨ i = 1 := by omega
      rcases hi with rfl | rfl
      · have hnx := fun ty => run_next_ascii (P := Tryd.prog) w ⟨#[10, 13]⟩ 0 ty (by decide) (by decide)
        go_wp2_with fail
        go_roundg g
        case measure => omega
        case rel => exact ⟨1, by omega, rfl⟩
      · have hnx := fun ty => run_next_ascii (P := Tryd.prog) w ⟨#[10, 13]⟩ 1 ty (by decide) (by decide)
        go_wp2_with fail
        go_roundg g
        case measure => omega
        case rel => exact ⟨2, by omega, rfl⟩

theorem crlf_byte (r : Nat) (h : r < 128) : Lib.indexByte crlf.data.toList (r : Int).toNat.toUInt8 = crlfAt r := by
  have g : ∀ n : Fin 128, Lib.indexByte crlf.data.toList ((n.val : Int).toNat.toUInt8) = crlfAt n.val := by decide +kernel
  exact g ⟨r, h⟩

/-- strings.IndexRune of "\n\r" at a character that a text may hold. -/
theorem indexRune_any (r : Nat) (h : r < 128 ∨ (128 ≤ r ∧ r ≤ 1114111 ∧ (r < 55296 ∨ 57343 < r))) (w : World) :
    Calls Tryd.prog 56 #[.string crlf, .int .i32 r] w fun e w' => e = .returned (.int .i64 (crlfAt r)) ∧ Below w.heap.size w w' := by
  rcases h with h | ⟨h0, h1, h2⟩
  · rw [← crlf_byte r h]
    exact (Tryd.strings_IndexRune_ascii crlf r w (by omega) (by omega)).mono fun e w' ⟨he, hw⟩ => ⟨he, hw ▸ Below.refl _ _⟩
  · have hc : crlfAt r = -1 := by unfold crlfAt; rw [if_neg (by omega), if_neg (by omega)]
    rw [hc]
    by_cases h3 : r = 65533
    · subst h3; exact indexRune_bad w
    · exact indexRune_wide r h0 h1 h2 h3 w

theorem crlf_in (x : UInt8) : crlf.data.toList.contains x = decide (0 ≤ crlfAt x.toNat) := by
  have g : ∀ n : Fin 256, crlf.data.toList.contains (UInt8.ofNat n.val) = decide (0 ≤ crlfAt n.val) := by decide +kernel
  have := g ⟨x.toNat, x.toNat_lt⟩
  simpa using this
theorem noAny_wide (s : ByteArray) (i n : Nat) (h : Lib.NoAny s.data.toList crlf.data.toList i) (hn : ∀ j, j < n → ∃ hj : i + j < s.size, 128 ≤ (s[i + j]'hj).toNat) : Lib.NoAny s.data.toList crlf.data.toList (i + n) := by
  intro j b hj hb
  by_cases hji : j < i
  · exact h j b hji hb
  · obtain ⟨m, rfl⟩ : ∃ m, j = i + m := ⟨j - i, by omega⟩
    obtain ⟨hh, h128⟩ := hn m (by omega)
    have hx : s.data.toList[i + m]? = some (s[i + m]'hh) := by rw [List.getElem?_eq_getElem (by simpa using hh)]; rfl
    rw [hx] at hb
    cases hb
    have h10 : (s[i + m]'hh) ≠ 10 := fun h => by rw [h] at h128; exact absurd h128 (by decide)
    have h13 : (s[i + m]'hh) ≠ 13 := fun h => by rw [h] at h128; exact absurd h128 (by decide)
    simp [h10, h13]

set_option maxRecDepth 1000000 in
set_option maxHeartbeats 1000000 in
theorem indexAny_short (s : ByteArray) (w : World) (h8 : s.size ≤ 8) :
    Calls Tryd.prog 42 #[.string s, .string crlf] w fun e w' => e = .returned (.int .i64 (Lib.indexAny s.data.toList crlf.data.toList)) ∧ Below w.heap.size w w' := by
  have h8z := Lib.hid (show decide ((8 : Int) < (s.size : Int)) = false from decide_eq_false (by omega))
  have HI := Lib.hid indexRune_any
  go_enter Tryd.func42, Tryd.ntmps42
  unfold crlf
  go_wp2_with (go_at_call 57; refine (Tryd.strings_shouldUseASCIISet _ _).mono ?_; rintro e w' ⟨rfl, rfl⟩; rw [h8z.out])
  go_loopw [9, 10] (fun _ _ wx => ∃ i : Nat, i ≤ s.size ∧ wx.heap[w'.heap.size]? = some (.stringIter s i) ∧ Below w'.heap.size w' wx ∧ w'.heap.size < wx.heap.size ∧ Lib.NoAny s.data.toList crlf.data.toList i) (fun _ _ wx => s.size - wx.iterPos w'.heap.size)
  case atStart => exact ⟨0, by omega, World.iter_heap _ _ _, (Below.refl _ _).alloc (Nat.le_refl _) _, by show _ < (w'.heap.push _).size; simp, Lib.NoAny.zero _ _⟩
  case round =>
    obtain ⟨i, hi, hk, hb, hlt, hno⟩ := hrel
    have HN := Lib.hid hno
    clear hno
    by_cases hlts : i < s.size
    · have hby : s.data.toList[i]? = some s[i] := by rw [List.getElem?_eq_getElem (by simpa using hlts)]; rfl
      have Hby := Lib.hid hby
      clear hby
      by_cases h128 : s[i].toNat < 128
      · have hnx := fun ty => Lib.run_next_ascii_at (P := Tryd.prog) wr _ s i ty hk hlts h128
        have hk2 := Lib.iterAt_heap wr _ s i (i + 1) hk
        have hb2 : Below w'.heap.size w' (wr.iterAt w'.heap.size s (i + 1)) := Lib.below_iterAt hb (Nat.le_refl _) _ _
        have hl2 : w'.heap.size < (wr.iterAt w'.heap.size s (i + 1)).heap.size := by rw [Lib.iterAt_size]; exact hlt
        obtain ⟨x, hx⟩ : ∃ x : UInt8, s[i] = x := ⟨_, rfl⟩
        rw [hx] at hnx h128 Hby
        clear hx
        have hcr := crlf_in x
        generalize wr.iterAt w'.heap.size s (i + 1) = w2 at *
        have HR := Lib.hid (HI.out x.toNat (.inl h128) w2)
        generalize crlfAt x.toNat = v at *
        cases hin : crlf.data.toList.contains x
        · rw [hin] at hcr
          have hv : v < 0 := by simpa using hcr
          clear hcr hb
          go_wp2_with (go_at_call 56; refine HR.out.mono ?_; rintro e w3 ⟨rfl, hb3⟩)
          have hk3 : w3.heap[w'.heap.size]? = some (.stringIter s (i + 1)) := (hb3.block _ hl2).trans hk2
          go_roundw
          case rel => exact ⟨i + 1, by omega, hk3, hb2.trans (hb3.mono (by omega)), by have := hb3.size; omega, HN.out.succ Hby.out hin⟩
          case measure => simp [World.iterPos, hk3, hk]; omega
        · rw [hin] at hcr
          have hv : 0 ≤ v := by simpa using hcr
          clear hcr hb
          go_wp2_with (go_at_call 56; refine HR.out.mono ?_; rintro e w3 ⟨rfl, hb3⟩)
          go_ret
          exact ⟨by rw [Lib.indexAny_hit HN.out Hby.out hin]; rfl, hb2.trans (hb3.mono (by omega))⟩
      · have hnx := fun ty => Lib.run_next_any_at (P := Tryd.prog) wr _ s i ty hk hlts
        obtain ⟨hn1, hns, hc, hbs⟩ := decode_wide s i hlts (by omega)
        obtain ⟨⟨c, n⟩, hcn⟩ : ∃ p, Utf8.decode s i = p := ⟨_, rfl⟩
        rw [hcn] at hnx hn1 hns hc hbs
        simp only at hnx hn1 hns hc hbs
        clear hcn
        have hk2 := Lib.iterAt_heap wr _ s i (i + n) hk
        have hb2 : Below w'.heap.size w' (wr.iterAt w'.heap.size s (i + n)) := Lib.below_iterAt hb (Nat.le_refl _) _ _
        have hl2 : w'.heap.size < (wr.iterAt w'.heap.size s (i + n)).heap.size := by rw [Lib.iterAt_size]; exact hlt
        generalize wr.iterAt w'.heap.size s (i + n) = w2 at *
        have HR := Lib.hid (HI.out c (.inr hc) w2)
        have hcr : crlfAt c = -1 := by unfold crlfAt; rw [if_neg (by omega), if_neg (by omega)]
        rw [hcr] at HR
        have HW := Lib.hid (noAny_wide s i n HN.out hbs)
        clear hcr hb hbs hc
        go_wp2_with (go_at_call 56; refine HR.out.mono ?_; rintro e w3 ⟨rfl, hb3⟩)
        have hk3 : w3.heap[w'.heap.size]? = some (.stringIter s (i + n)) := (hb3.block _ hl2).trans hk2
        go_roundw
        case rel => exact ⟨i + n, by omega, hk3, hb2.trans (hb3.mono (by omega)), by have := hb3.size; omega, HW.out⟩
        case measure => simp [World.iterPos, hk3, hk]; omega
    · obtain rfl : i = s.size := by omega
      have hnx := fun ty => Lib.run_next_end_at (P := Tryd.prog) wr _ s s.size ty hk (by omega)
      go_wp2_with fail
      go_ret
      exact ⟨by rw [Lib.indexAny_none (by rw [← Lib.size_eq]; exact HN.out)]; rfl, hb⟩
end Go.Proofs.YtcflmpnkmchdoaaDoor
