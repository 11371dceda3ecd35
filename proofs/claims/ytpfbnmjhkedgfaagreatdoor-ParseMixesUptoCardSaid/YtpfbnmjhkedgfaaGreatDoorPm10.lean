/- Parts: Walk: ParseMixes, awake and its reading given. Condition: what a law leans on. -/
import Derived.Test.YtpfbnmjhkedgfaaGreatDoorPm08
import Derived.Test.YtpfbnmjhkedgfaaGreatDoorPm07
import Derived.Maps.AppendAt
import Derived.Deep.AppendLies
import Derived.Deep.DrawnRows
namespace Go.Proofs.YtpfbnmjhkedgfaaGreatDoor
section
open Go.RowKit
theorem infoStr : (Tryz.prog.info? 9).map (fun i => (i.zero, i.size, i.bytes)) = some (some (.string ⟨#[]⟩), 1, 16) := by kernel_rfl
theorem str_one (a : ByteArray) : ∀ y ∈ ([.string a] : List Value), y.oneCell' = true := by
 intro y hy
 simp only [List.mem_cons, List.not_mem_nil, or_false] at hy
 rcases hy with rfl
 rfl
theorem wpList_ran {P : Program} {w w2 : World} {ops : Array Oper} {rest : List Oper} {o : Oper} {a : Act} {Q : Exit → Act → World → Prop} {u1 u2 v : Value} (hgd : o.guard = none) (s x : Operand) (t : TypeId)
  (ho : o.op = .call { callee := .builtin .append, args := #[s, x], argTypes := #[t, t] }) (hs : a.eval s = u1) (hx : a.eval x = u2) (hrun : (Builtin.append_ #[t, t] o.type #[u1, u2]).run P w = .ok v w2) (hok : wpList P ops Q rest (a.put o.dst v) w2) : wpList P ops Q (o :: rest) a w :=
 wpList_plain hgd fun _ hK => by
  unfold Oper.wp execOp
  simp only [ho, resolve, invoke, builtin, Sem.run_bind, Sem.run_pure, Result.andThen_ok, List.map_toArray, List.map_cons, List.map_nil, hs, hx, hrun]
  exact hK _ _ hok
theorem ops_append (w : World) : ∃ g cap w2, ((Builtin.append_ #[24, 24] 24 #[.slice (some ⟨w.heap.size, 0, none⟩) 24 24, .slice (some ⟨w.heap.size + 1, 0, none⟩) 1 1]).run Tryz.prog ((w.alloc (.cells opsV 9)).alloc (.cells #[.string ⟨#[63, 63]⟩] 9)) = .ok (.slice (some ⟨g, 0, none⟩) 25 cap) w2) ∧
  Below w.heap.size w w2 ∧ g < w2.heap.size ∧ w.heap.size ≤ g ∧ ∀ j, (h : j < opsL.length) → w2.cell? ⟨g, j, none⟩ = some (.string opsL[j]) := by
 obtain ⟨i0, hi, hz0, hz1, hz2⟩ := info_parts infoStr
 have hown : (w.alloc (.cells opsV 9)).ownsRow w.heap.size 9 1 (.slice (some ⟨w.heap.size, 0, none⟩) 24 24) 24 opsV.toList := World.ownsRow_lit (e := 9) w opsV 24 (Nat.le_refl _) (by decide) (show opsV.size = 24 * 1 from rfl)
 obtain ⟨v', w2, hr, h2, h3, _, h5⟩ := run_append_own_at (P := Tryz.prog) (w := (w.alloc (.cells opsV 9)).alloc (.cells #[.string ⟨#[63, 63]⟩] 9)) w.heap.size 24 24 9 i0 _ 1 16 (by kernel_rfl) hi hz0 hz1 hz2 rfl (by decide) _ 24 _ (hown.alloc _) ⟨w.heap.size + 1, 0, none⟩ 1 1 [.string ⟨#[63, 63]⟩] rfl (by
  rw [show w.heap.size + 1 = (w.alloc (.cells opsV 9)).heap.size by simp]
  exact World.news_of_block (heap_alloc_new _ _)) (str_one _) (by decide) (by decide) (by simp; omega)
 have e : opsV.toList ++ [.string ⟨#[63, 63]⟩] = opsL.map Value.string := rfl
 rw [e] at h2
 rcases h2.2 with ⟨_, hn⟩ | ⟨g, cap, cur, rfl, hg, hc, hle, _⟩
 ·cases hn
 ·refine ⟨g, cap, w2, hr, ⟨h3.os, h3.tape, h3.output, Nat.le_trans (by simp; omega) h3.size, fun k hk => ?_⟩, (Array.getElem?_eq_some_iff.1 hc).1, hg, fun j h => ?_⟩
  ·refine (h3.block k (by simp; omega) fun e => ?_).trans ((Below.heap_alloc _ _ _ (by simp; omega)).trans (Below.heap_alloc _ _ _ hk))
   have e9 : k = w.heap.size := by simpa [Value.ownBlock] using e
   omega
  ·have h7 := h2.cellAt j (by simp; exact h)
   rw [h7]
   simp [h]
def AwOk : Prop := ∀ w : World, Lx w → Calls Tryz.prog 15 #[] w fun e w' => e = .returned (.bool true) ∧ Below w.heap.size w w'
def MxOk : Prop := ∀ x ∈ opsL, ∀ y ∈ opsL, ∀ w : World, Lx w → Calls Tryz.prog 20 #[.string (mixT x y), .bool false] w fun e w' =>
 (∃ (k : Int) (t : ByteArray) (r : Option Addr) (m c : Nat) (f u z : Int), e = .returned (.tuple #[.agg #[.int .i64 k, .string t, .slice r m c, .int .i64 f, .int .i64 u], .int .i64 z, .int .i64 (if mixB x y then 1001 else 0)])) ∧ Below w.heap.size w w'
theorem pick25 (i : Int) : ∃ a : Nat, (IntKind.u64.wrap i).tmod 25 = (a : Int) ∧ a < 25 := by
 have e : IntKind.u64.wrap i = i % 18446744073709551616 := rfl
 refine ⟨((IntKind.u64.wrap i).tmod 25).toNat, ?_, ?_⟩ <;> rw [e, Int.tmod_eq_emod_of_nonneg (by omega)] <;> omega
theorem ops_size : ∀ x ∈ opsL, x.size ≤ 10 := by decide
set_option maxRecDepth 100000 in
set_option maxHeartbeats 16000000 in
theorem mixes_of (hA : AwOk) (hE : MxOk) (i j : Int) (w : World) (hx : Lx w) :
  Calls Tryz.prog 4 #[.int .i64 i, .int .i64 j] w fun e w' => e = .returned (.bool true) ∧ Below w.heap.size w w' := by
 have HX := Lib.hid hx
 have HA := Lib.hid hA
 have HE := Lib.hid hE
 obtain ⟨a, ha, ha2⟩ := pick25 i
 obtain ⟨b, hb, hb2⟩ := pick25 j
 clear hx hA hE
 go_enter Tryz.func4, Tryz.ntmps4
 go_wp2_with fail
 refine (HA.out w HX.out).mono ?_
 rintro e w1 ⟨rfl, hb1⟩
 obtain ⟨g, cap, w2, hrun, hbo, hg2, hg0, hcell⟩ := ops_append w1
 have HB := Lib.hid (hb1.trans (hbo.mono hb1.size))
 have HR := Lib.hid hrun
 clear hrun
 obtain ⟨x, hx⟩ : ∃ x, opsL[a]'ha2 = x := ⟨_, rfl⟩
 obtain ⟨y, hy⟩ : ∃ y, opsL[b]'hb2 = y := ⟨_, rfl⟩
 have hxm : x ∈ opsL := hx ▸ List.getElem_mem _
 have hym : y ∈ opsL := hy ▸ List.getElem_mem _
 have ca := hcell a ha2
 have cb := hcell b hb2
 rw [hx] at ca
 rw [hy] at cb
 have sx := ops_size x hxm
 have sy := ops_size y hym
 have HXM := Lib.hid hxm
 have HYM := Lib.hid hym
 have la : IntKind.i64.wrap (a : Int) = a := by rw [IntKind.wrap_i64]; omega
 have lb : IntKind.i64.wrap (b : Int) = b := by rw [IntKind.wrap_i64]; omega
 have na : (0 : Int) ≤ (a : Int) := by omega
 have nb : (0 : Int) ≤ (b : Int) := by omega
 have ma : (a : Int) < 25 := by omega
 have mb : (b : Int) < 25 := by omega
 clear hb1 hbo hcell hx hy hxm hym hg0
 go_upto_region 3 with fail
 go_step
 go_step
 go_step
 refine (operators_any _).mono ?_
 rintro e w9 ⟨rfl, rfl⟩
 simp only
 go_step
 go_step
 go_step
 go_step
 refine wpList_ran (by rfl) _ _ _ (by rfl) (by rfl) (by rfl) HR.out ?_
 clear HR
 go_wp2_with fail
 go_quiet (fail)
 generalize hwq : World.drewN w2 _ = w3
 have HB3 := Lib.hid (show Below w.heap.size w w3 by rw [← hwq]; exact bel_drewN HB.out _)
 clear ca cb hwq ha hb HB hg2 la lb na nb ma mb
 go_wp2_with fail
 refine (HE.out x HXM.out y HYM.out w3 (HX.out.bel HB3.out)).mono ?_
 rintro e w4 ⟨⟨nk, nt, nr, nm, nc, nf, nu, nz, rfl⟩, hb4⟩
 have HB4 := Lib.hid ((HB3.out.trans (hb4.mono HB3.out.size)).alloc (Nat.le_trans HB3.out.size hb4.size) (.cells #[.int .i64 nk, .string nt, .slice nr nm nc, .int .i64 nf, .int .i64 nu] 28))
 obtain ⟨code, hcode⟩ : ∃ code : Int, (if mixB x y then (1001 : Int) else 0) = code := ⟨_, rfl⟩
 rw [hcode]
 have HC := Lib.hid hcode
 have hx1 := bt x [63, 63]
 have hy1 := bt y [63, 63]
 have HLX := Lib.hid fun W : World => log_any x W
 have HLY := Lib.hid fun W : World => log_any y W
 have HMB := Lib.hid (show mixB x y = (decide (x = ⟨#[63, 63]⟩) && logT y || decide (y = ⟨#[63, 63]⟩) && logT x) from rfl)
 clear hb4 sx sy hcode
 generalize decide (x = (⟨#[63, 63]⟩ : ByteArray)) = bx at *
 generalize decide (y = (⟨#[63, 63]⟩ : ByteArray)) = by' at *
 generalize logT x = lx at *
 generalize logT y = ly at *
 go_upto_region 7 with fail
 generalize w4.alloc (.cells #[.int .i64 nk, .string nt, .slice nr nm nc, .int .i64 nf, .int .i64 nu] 28) = w5 at *
 clear HX HE HXM HYM
 cases bx <;> cases by'
 ·have hc := HC.out
  rw [HMB.out] at hc
  simp at hc
  subst hc
  clear HC HMB
  go_wp2_with (first | (go_at_call 19; first | (refine (HLX.out _).mono ?_; rintro e w9 ⟨rfl, rfl⟩) | (refine (HLY.out _).mono ?_; rintro e w9 ⟨rfl, rfl⟩)) | (go_at_call 17; refine (num_any _ _).mono ?_; rintro e w9 ⟨rfl, rfl⟩))
  go_ret
  exact ⟨rfl, HB4.out⟩
 ·cases lx
  all_goals
   have hc := HC.out
   rw [HMB.out] at hc
   simp at hc
   subst hc
   clear HC HMB
   go_wp2_with (first | (go_at_call 19; first | (refine (HLX.out _).mono ?_; rintro e w9 ⟨rfl, rfl⟩) | (refine (HLY.out _).mono ?_; rintro e w9 ⟨rfl, rfl⟩)) | (go_at_call 17; refine (num_any _ _).mono ?_; rintro e w9 ⟨rfl, rfl⟩))
   go_ret
   exact ⟨rfl, HB4.out⟩
 ·cases ly
  all_goals
   have hc := HC.out
   rw [HMB.out] at hc
   simp at hc
   subst hc
   clear HC HMB
   go_wp2_with (first | (go_at_call 19; first | (refine (HLX.out _).mono ?_; rintro e w9 ⟨rfl, rfl⟩) | (refine (HLY.out _).mono ?_; rintro e w9 ⟨rfl, rfl⟩)) | (go_at_call 17; refine (num_any _ _).mono ?_; rintro e w9 ⟨rfl, rfl⟩))
   go_ret
   exact ⟨rfl, HB4.out⟩
 ·cases lx <;> cases ly
  all_goals
   have hc := HC.out
   rw [HMB.out] at hc
   simp at hc
   subst hc
   clear HC HMB
   go_wp2_with (first | (go_at_call 19; first | (refine (HLX.out _).mono ?_; rintro e w9 ⟨rfl, rfl⟩) | (refine (HLY.out _).mono ?_; rintro e w9 ⟨rfl, rfl⟩)) | (go_at_call 17; refine (num_any _ _).mono ?_; rintro e w9 ⟨rfl, rfl⟩))
   go_ret
   exact ⟨rfl, HB4.out⟩
end
end Go.Proofs.YtpfbnmjhkedgfaaGreatDoor
