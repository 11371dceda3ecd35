/- JsxShows: what JSX shows of a text, and its words, are as the document says, two answers held at a time: the law's own function answers true. Condition: at most 2^20 bytes. -/
import Derived.Test.YtcflmpnkmchdoaaDoorM
import Derived.Test.YtcflmpnkmchdoaaDoorSH
import Derived.Test.YtcflmpnkmchdoaaDoorSpoil
import Derived.Test.YtcflmpnkmchdoaaDoorW
namespace Go.Proofs.YtcflmpnkmchdoaaDoor
open Go.RowKit

set_option maxHeartbeats 1000000 in
theorem jsxShows_law (s : ByteArray) (w : World) (hs : s.size ≤ 1048576) : Calls Tryd.prog 4 #[.string s] w fun e w' => e = .returned (.bool true) ∧ Below w.heap.size w w' := by
  have hW := fun W => words_any s W (by omega)
  have hR := fun W => words_ref s W (by omega)
  have hS := fun W => shown_any s (by omega) W
  have hSR := fun W => shown_ref s W (by omega)
  have hWl : (wordsL s.data.toList).length ≤ 33554432 := by have := wordsL_len s.data.toList; rw [ofl] at this; omega
  have hWm : ∀ x ∈ wordsL s.data.toList, x.length ≤ 33554432 := fun x hx => by have := words_mem hx; rw [ofl] at this; omega
  generalize wordsL s.data.toList = ws at *
  generalize (⟨(shownL s.data.toList).toArray⟩ : ByteArray) = T at *
  have HW := Lib.hid hW
  have HR := Lib.hid hR
  have HS := Lib.hid hS
  have HSR := Lib.hid hSR
  have HWl := Lib.hid hWl
  have HWm := Lib.hid hWm
  clear hW hR hS hSR hWl hWm
  go_enter Tryd.func4, Tryd.ntmps4
  go_upto_region 2 with (go_at_call 13; refine (HW.out _).mono ?_; rintro e w1 ⟨a, rfl, hta, hb1⟩)
  go_upto_region 3 with (go_at_call 13; refine (HW.out _).mono ?_; rintro e w2 ⟨b, rfl, htb, hb2⟩)
  go_upto_region 4 with (go_at_call 14; refine (HR.out _).mono ?_; rintro e w3 ⟨u, rfl, htu, hb3⟩)
  have ha3 := (hta.below hb2).below hb3
  have hb3' := htb.below hb3
  have hag : ∀ g, a.ownBlock = some g → g < w1.heap.size := fun g hg => (World.ownsRow.lt hta g hg).2
  go_upto_region 7 with (first | (go_at_call 15; refine (sameTexts_any _ _ _ _ _ _ _ ha3 htu HWl.out HWl.out).mono ?_; rintro e w4 ⟨rfl, hb4⟩; rw [decide_eq_true rfl]) | (go_at_call 16; refine (HS.out _).mono ?_; rintro e w5 ⟨rfl, hb5⟩) | (go_at_call 17; refine (HSR.out _).mono ?_; rintro e w6 ⟨rfl, hb6⟩) | (go_at_call 18; refine (spoil_any _ _ _ _ (((ha3.below hb4).below hb5).below hb6) HWl.out HWm.out).mono ?_; rintro e w7 ⟨rfl, hb7, ht7⟩))
  have hb8 := ht7 _ _ _ (((hb3'.below hb4).below hb5).below hb6) hag
  have hu8 := ht7 _ _ _ (((htu.below hb4).below hb5).below hb6) (fun g hg => Nat.lt_of_lt_of_le (hag g hg) hb2.size)
  have hbel : Below w.heap.size w w7 := (bel_next (bel_next (bel_next (bel_next (bel_next hb1 hb2) hb3) hb4) hb5) hb6).trans hb7
  clear ht7 hag ha3 hb3' hta htb htu
  go_wp2_with (first | (go_at_call 15; refine (sameTexts_any _ _ _ _ _ _ _ hb8 hu8 HWl.out HWl.out).mono ?_; rintro e w9 ⟨rfl, hb9⟩; rw [decide_eq_true rfl]) | (go_at_call 12; refine (awake_any _).mono ?_; rintro e w10 ⟨rfl, hb10⟩))
  go_ret
  exact ⟨rfl, bel_next (bel_next hbel hb9) hb10⟩
end Go.Proofs.YtcflmpnkmchdoaaDoor
