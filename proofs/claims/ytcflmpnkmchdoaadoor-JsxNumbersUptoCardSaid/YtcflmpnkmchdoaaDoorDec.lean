/- The contract of the reference's Decimal: it answers the digits of a number. Condition: the number is at least 0 and at most 2000000. -/
import Derived.Test.YtcflmpnkmchdoaaDoorL
import Derived.Test.YtcflmpnkmchdoaaDoorZ
import Derived.Laws.AppendOwnNone
namespace Go.Proofs.YtcflmpnkmchdoaaDoor
open Go.RowKit

def DecRel (x : Nat) (w wr : World) (y : Nat) (out : Value) : Prop :=
  ∃ l : List UInt8, DigL 10 x y l ∧ wr.ownsRow w.heap.size 5 1 out l.length (Lib.byteCells l) ∧ Below w.heap.size w wr ∧ (l = [] → out = .slice none 0 0)

theorem dig_cell (y : Nat) : Value.int .u8 (48 + (y : Int) % 10) = Value.int .u8 ((UInt8.ofNat (48 + y % 10)).toNat : Int) := by
  have : (UInt8.ofNat (48 + y % 10)).toNat = 48 + y % 10 := by
    rw [UInt8.toNat_ofNat']
    omega
  rw [this]
  congr 1
theorem own_le {w : World} {base base' size n : Nat} {e : TypeId} {v : Value} {xs : List Value} (h : w.ownsRow base e size v n xs) (hb : base' ≤ base) : w.ownsRow base' e size v n xs := by
  rcases h with ⟨h1, h2⟩
  refine ⟨h1, ?_⟩
  rcases h2 with h2 | ⟨g, cap, cur, hv, hg, rest⟩
  · exact .inl h2
  · exact .inr ⟨g, cap, cur, hv, Nat.le_trans hb hg, rest⟩
theorem one_cells (l : List UInt8) : ∀ u ∈ Lib.byteCells l, u.oneCell' = true := by
  intro u hu
  simp only [Lib.byteCells, List.mem_map] at hu
  obtain ⟨b, _, rfl⟩ := hu
  rfl
def nilN : Value → Nat
  | .slice none _ _ => 1
  | _ => 0
theorem nil_own {w : World} {base size n : Nat} {e : TypeId} {v : Value} {xs : List Value} (h : w.ownsRow base e size v n xs) (hn : 0 < n) : nilN v = 0 := by
  rcases h.2 with ⟨_, h0⟩ | ⟨g, cap, cur, rfl, _⟩
  · omega
  · rfl
theorem dec_first {x y : Nat} {w wr : World} {l : List UInt8} (h : DigL 10 x y l) (hl : l = []) (hb : Below w.heap.size w wr) :
    DecRel x w (wr.alloc (.cells #[.int .u8 (48 + (y : Int) % 10)] 5)) (y / 10) (.slice (some ⟨wr.heap.size, 0, none⟩) 1 1) := by
  obtain ⟨d1, d2, d3⟩ := dec_digit y
  refine ⟨_, digL_cons h (by decide) (.inr hl) d1 d2 d3, ?_, Below.alloc hb hb.size _, fun e => by cases e⟩
  subst hl
  have := World.ownsRow_lit (base := w.heap.size) (e := 5) (size := 1) wr #[.int .u8 (48 + (y : Int) % 10)] 1 hb.size (by decide) rfl
  rw [dig_cell] at this ⊢
  exact this
theorem dec_next {x y : Nat} {w wr w1 : World} {l : List UInt8} {v : Value} (h : DigL 10 x y l) (hy : 0 < y ∨ l = []) (hb : Below w.heap.size w wr)
    (ho : w1.ownsRow wr.heap.size 5 1 v (1 + l.length) ([.int .u8 (48 + (y : Int) % 10)] ++ Lib.byteCells l)) (hg : (wr.alloc (.cells #[.int .u8 (48 + (y : Int) % 10)] 5)).grownBy w1 (some wr.heap.size)) :
    DecRel x w w1 (y / 10) v := by
  obtain ⟨d1, d2, d3⟩ := dec_digit y
  refine ⟨_, digL_cons h (by decide) hy d1 d2 d3, ?_, ?_, fun e => by cases e⟩
  · have := own_le ho hb.size
    rw [dig_cell] at this
    rw [List.length_cons, Nat.add_comm]
    exact this
  · refine (hb.alloc hb.size _).grown hg ?_ ?_
    · rw [World.size_alloc]; have := hb.size; omega
    · intro k hk
      cases hk
      exact hb.size

set_option maxRecDepth 100000 in
set_option maxHeartbeats 1000000 in
theorem decimal_any (x : Nat) (hx : x ≤ 2000000) (w : World) : Calls Tryd.prog 19 #[.int .i64 x] w fun e w' => ∃ l : List UInt8, DigT 10 x l ∧ e = .returned (.string ⟨l.toArray⟩) ∧ Below w.heap.size w w' := by
  obtain ⟨i0, hi, hz0, hz1, hz2⟩ := info_parts Tryd.infoByte
  go_enter Tryd.func19, Tryd.ntmps19
  go_wp2
  go_loopw [3, 4] (fun n out wr => ∃ y : Nat, y ≤ x ∧ n = .int .u64 y ∧ DecRel x w wr y out) (fun n out _ => (intOf n).toNat * 2 + nilN out)
  case atStart => exact ⟨x, Nat.le_refl _, by go_num, [], digL_nil 10 x, World.ownsRow_nil _ _ _ _, Below.refl _ _, fun _ => rfl⟩
  case round =>
    obtain ⟨y, hy, rfl, l, hd, hown, hbel, hnil⟩ := hrel
    have HD := Lib.hid hd
    have hlen : l.length ≤ 3000000 := by have := hd.len; omega
    clear hd
    rcases hown.2 with ⟨rfl, h0⟩ | ⟨g, cap, cur, rfl, hgb, hgc, hnc, hcm, hcs, htk⟩
    · have h0 : l = [] := List.length_eq_zero_iff.1 h0
      have H0 := Lib.hid h0
      clear h0 hown
      by_cases hy0 : y = 0
      · subst hy0
        go_wp2_with fail
        go_roundw
        case rel => exact ⟨0, by omega, rfl, dec_first HD.out H0.out hbel⟩
        case measure => show _ < _; simp [intOf, nilN]
      · have hpos : 0 < y := by omega
        go_wp2_with fail
        go_roundw
        case rel => exact ⟨y / 10, by omega, by go_num, dec_first HD.out H0.out hbel⟩
        case measure => simp [intOf, nilN]; omega
    · clear hgc hnc hcm hcs htk
      by_cases hy0 : y = 0
      · subst hy0
        have hl : l ≠ [] := fun e => by have := hnil e; cases this
        have hpos : 0 < l.length := List.length_pos_iff.2 hl
        have hstr := string_own hown
        have HT := Lib.hid (digT_of HD.out hl)
        clear hnil hl HD
        go_wp2_with fail
        go_ret
        exact ⟨l, HT.out, rfl, hbel⟩
      · clear hnil
        have hpos : 0 < y := by omega
        go_wp2_with (at_builtin; (refine wpList_append_own_at _ rfl _ _ 45 rfl wr.heap.size 5 i0 (.int .u8 0) 1 1 (by kernel_rfl) hi hz0 hz1 hz2 rfl (by decide) _ 1 [.int .u8 (48 + (y : Int) % 10)] rfl (World.ownsRow_lit wr #[.int .u8 (48 + (y : Int) % 10)] 1 (Nat.le_refl _) (by decide) rfl) ⟨g, 0, none⟩ l.length cap (Lib.byteCells l) rfl (by simp [Lib.byteCells]) ((hown.alloc _).cells rfl) (one_cells l) (by unfold maxLen; omega) (by omega) (by rw [World.size_alloc]; omega) ?_))
        intro v' w1 hown' hgrow _ _
        have HR := Lib.hid (dec_next HD.out (.inl hpos) hbel hown' hgrow)
        have HN := Lib.hid (nil_own hown' (by omega))
        clear hown hown' hgrow hbel
        go_wp2_with fail
        go_roundw
        case rel => exact ⟨y / 10, by omega, by go_num, HR.out⟩
        case measure => rw [HN.out]; simp [intOf, nilN]; omega
end Go.Proofs.YtcflmpnkmchdoaaDoor
