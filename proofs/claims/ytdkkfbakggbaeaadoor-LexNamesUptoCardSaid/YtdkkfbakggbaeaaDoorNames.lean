/- LexNames' function answers true. Conditions: the library's tables; at most 2^20 bytes. -/
import Derived.Test.YtdkkfbakggbaeaaDoorNamM
namespace Go.Proofs.YtdkkfbakggbaeaaDoor
open Go.RowKit

set_option maxRecDepth 20000 in
set_option maxHeartbeats 2000000 in
theorem names_any (s : ByteArray) (w : World) (hs : s.size ≤ 1048576) (hX : Lx w) :
    Calls Tryd.prog 11 #[.string s] w fun e w' => e = .returned (.bool true) ∧ Below w.heap.size w w' := by
  have hA := lawake_any w hX
  have hW := fun W => wname_any s W (by omega)
  cases hN : nameOK s.data.toList with
  | true =>
    have hO : ∀ W, Lx W → ∀ (a : ByteArray) (g k : Int), (a = s ∧ g = 1 ∧ k = 1) ∨ (a = s ∧ g = 2 ∧ k = 1) ∨ (a = ⟨#[35]⟩ ++ s ∧ g = 1 ∧ k = 2) ∨ (a = s ∧ g = 5 ∧ k = 1) ∨ (a = s ++ ⟨#[45, 120, 45]⟩ ∧ g = 5 ∧ k = 1) → Calls Tryd.prog 17 #[.string a, .int .i64 g, .int .i64 k] W fun e w' => e = .returned (.bool true) ∧ Below W.heap.size W w' := by
      rintro W h a g k (⟨h1, h2, h3⟩ | ⟨h1, h2, h3⟩ | ⟨h1, h2, h3⟩ | ⟨h1, h2, h3⟩ | ⟨h1, h2, h3⟩)
      · rw [h1, h2, h3]
        have := only_any s 1 1 W (by omega) h
        rw [only_name s 1 (.inl rfl), hN] at this
        exact this
      · rw [h1, h2, h3]
        have := only_any s 2 1 W (by omega) h
        rw [only_name s 2 (.inr rfl), hN] at this
        exact this
      · rw [h1, h2, h3]
        have := only_any (⟨#[35]⟩ ++ s) 1 2 W (by rw [ByteArray.size_append]; show 1 + s.size ≤ _; omega) h
        rw [only_priv s, hN] at this
        exact this
      · rw [h1, h2, h3]
        have := only_any s 5 1 W (by omega) h
        have e : s ++ (⟨#[]⟩ : ByteArray) = s := ByteArray.append_empty
        have ht := only_tag s ⟨#[]⟩ hN rfl
        rw [e] at ht
        rw [ht] at this
        exact this
      · rw [h1, h2, h3]
        have := only_any (s ++ ⟨#[45, 120, 45]⟩) 5 1 W (by rw [ByteArray.size_append]; show s.size + 3 ≤ _; omega) h
        rw [only_tag s ⟨#[45, 120, 45]⟩ hN (by kernel_rfl)] at this
        exact this
    rw [hN] at hW
    have HA := Lib.hid hA
    have HW := Lib.hid hW
    have HO := Lib.hid hO
    have HX := Lib.hid hX
    clear hA hW hO hX hN
    go_enter Tryd.func11, Tryd.ntmps11
    go_upto_region 3 with (go_at_call 13; refine HA.out.mono ?_; rintro e w1 ⟨rfl, hb⟩)
    go_upto_region 4 with (go_at_call 19; refine (HW.out _).mono ?_; rintro e w2 ⟨rfl, hb2⟩; replace hb := bel_next hb hb2; clear hb2)
    go_upto_region 5 with (go_at_call 17; refine (HO.out _ (HX.out.bel hb) _ _ _ (by first | exact .inl ⟨rfl, rfl, rfl⟩ | exact .inr (.inl ⟨rfl, rfl, rfl⟩) | exact .inr (.inr (.inl ⟨rfl, rfl, rfl⟩)) | exact .inr (.inr (.inr (.inl ⟨rfl, rfl, rfl⟩))) | exact .inr (.inr (.inr (.inr ⟨rfl, rfl, rfl⟩))))).mono ?_; rintro e w9 ⟨rfl, hb9⟩; replace hb := bel_next hb hb9; clear hb9)
    go_wp2_with (go_at_call 17; refine (HO.out _ (HX.out.bel hb) _ _ _ (by first | exact .inl ⟨rfl, rfl, rfl⟩ | exact .inr (.inl ⟨rfl, rfl, rfl⟩) | exact .inr (.inr (.inl ⟨rfl, rfl, rfl⟩)) | exact .inr (.inr (.inr (.inl ⟨rfl, rfl, rfl⟩))) | exact .inr (.inr (.inr (.inr ⟨rfl, rfl, rfl⟩))))).mono ?_; rintro e w9 ⟨rfl, hb9⟩; replace hb := bel_next hb hb9; clear hb9)
    go_ret
    exact ⟨rfl, hb⟩
  | false =>
    have hO : ∀ W, Lx W → ∀ (a : ByteArray) (g k : Int), (a = s ∧ g = 1 ∧ k = 1) ∨ (a = s ∧ g = 2 ∧ k = 1) ∨ (a = ⟨#[35]⟩ ++ s ∧ g = 1 ∧ k = 2) → Calls Tryd.prog 17 #[.string a, .int .i64 g, .int .i64 k] W fun e w' => e = .returned (.bool false) ∧ Below W.heap.size W w' := by
      rintro W h a g k (⟨h1, h2, h3⟩ | ⟨h1, h2, h3⟩ | ⟨h1, h2, h3⟩)
      · rw [h1, h2, h3]
        have := only_any s 1 1 W (by omega) h
        rw [only_name s 1 (.inl rfl), hN] at this
        exact this
      · rw [h1, h2, h3]
        have := only_any s 2 1 W (by omega) h
        rw [only_name s 2 (.inr rfl), hN] at this
        exact this
      · rw [h1, h2, h3]
        have := only_any (⟨#[35]⟩ ++ s) 1 2 W (by rw [ByteArray.size_append]; show 1 + s.size ≤ _; omega) h
        rw [only_priv s, hN] at this
        exact this
    rw [hN] at hW
    have HA := Lib.hid hA
    have HW := Lib.hid hW
    have HO := Lib.hid hO
    have HX := Lib.hid hX
    clear hA hW hO hX hN
    go_enter Tryd.func11, Tryd.ntmps11
    go_upto_region 3 with (go_at_call 13; refine HA.out.mono ?_; rintro e w1 ⟨rfl, hb⟩)
    go_upto_region 4 with (go_at_call 19; refine (HW.out _).mono ?_; rintro e w2 ⟨rfl, hb2⟩; replace hb := bel_next hb hb2; clear hb2)
    go_upto_region 5 with (go_at_call 17; refine (HO.out _ (HX.out.bel hb) _ _ _ (by first | exact .inl ⟨rfl, rfl, rfl⟩ | exact .inr (.inl ⟨rfl, rfl, rfl⟩) | exact .inr (.inr ⟨rfl, rfl, rfl⟩))).mono ?_; rintro e w9 ⟨rfl, hb9⟩; replace hb := bel_next hb hb9; clear hb9)
    go_wp2_with (go_at_call 17; refine (HO.out _ (HX.out.bel hb) _ _ _ (by first | exact .inl ⟨rfl, rfl, rfl⟩ | exact .inr (.inl ⟨rfl, rfl, rfl⟩) | exact .inr (.inr ⟨rfl, rfl, rfl⟩))).mono ?_; rintro e w9 ⟨rfl, hb9⟩; replace hb := bel_next hb hb9; clear hb9)
    go_ret
    exact ⟨rfl, hb⟩
end Go.Proofs.YtdkkfbakggbaeaaDoor
