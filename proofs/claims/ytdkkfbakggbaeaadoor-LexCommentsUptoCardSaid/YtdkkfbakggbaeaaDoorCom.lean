/- LexComments' function answers true: comments are told in their row, each as it is written. Conditions: the argument's cells hold ints; the library's tables. -/
import Derived.Test.YtdkkfbakggbaeaaDoorDec
namespace Go.Proofs.YtdkkfbakggbaeaaDoor
open Go.RowKit

theorem infoInt8 : (Tryd.prog.info? 3).map (fun i => (i.zero, i.size, i.bytes)) = some (some (.int .i64 0), 1, 8) := by kernel_rfl
theorem infoStr16 : (Tryd.prog.info? 9).map (fun i => (i.zero, i.size, i.bytes)) = some (some (.string ⟨#[]⟩), 1, 16) := by kernel_rfl
theorem own_apart {w : World} {b b' n n' m m' : Nat} {e e' : TypeId} {v v' : Value} {xs xs' : List Value} (h : w.ownsRow b e m v n xs) (h' : w.ownsRow b' e' m' v' n' xs') (hne : e ≠ e') : v.ownBlock = none ∨ v.ownBlock ≠ v'.ownBlock := by
  rcases h.2 with ⟨rfl, _⟩ | ⟨g, cap, cur, rfl, _, hh, _⟩
  · exact .inl rfl
  · right
    rcases h'.2 with ⟨rfl, _⟩ | ⟨g', cap', cur', rfl, _, hh', _⟩
    · simp [Value.ownBlock]
    · intro he
      have : g = g' := by simpa [Value.ownBlock] using he
      subst this
      rw [hh] at hh'
      injection hh' with hh'
      injection hh' with _ ht
      exact hne ht
theorem own_form {w : World} {b n m : Nat} {e : TypeId} {v : Value} {xs : List Value} (h : w.ownsRow b e m v n xs) : ∃ p cap, v = .slice p n cap := by
  rcases h.2 with ⟨e, hn⟩ | ⟨g, cap, cur, e, _⟩
  · exact ⟨none, 0, by rw [e, hn]⟩
  · exact ⟨_, cap, e⟩
theorem push_below {B : Nat} {a w w1 : World} {o : Obj} {v : Value} {T : TypeId} {n m : Nat} {xs : List Value} (hb : Below B a w) (hB : B ≤ w.heap.size) (ho : w.ownsRow B T m v n xs) (hg : (w.alloc o).grownBy w1 v.ownBlock) : Below B a w1 := by
  refine (hb.alloc hB o).grown hg ?_ ?_
  · rw [World.size_alloc]; omega
  · intro k hk
    rcases ho.2 with ⟨rfl, _⟩ | ⟨g, cap, cur, rfl, h, _⟩
    · cases hk
    · cases hk; exact h
theorem cell_new1 (w : World) (u : Value) (T : TypeId) : ∀ j x, ([u] : List Value)[j]? = some x → (w.alloc (.cells #[u] T)).cell? ((⟨w.heap.size, 0, none⟩ : Addr).add j) = some x := by
  intro j x h
  cases j with
  | zero =>
    show (w.alloc (.cells #[u] T)).cell? ⟨w.heap.size, 0, none⟩ = some x
    rw [cell_of_row _ _ 0 _ T (0, 0) (heap_alloc_new _ _)]
    exact h
  | succ j => simp at h
/-- the two rows under way. -/
structure CSt (w : World) (xs ys : List Value) (ks ts : Value) (wr : World) : Prop where
  k : wr.ownsRow w.heap.size 3 1 ks xs.length xs
  t : wr.ownsRow w.heap.size 9 1 ts ys.length ys
  bel : Below w.heap.size w wr
theorem CSt.bel' {w wr w' : World} {xs ys : List Value} {ks ts : Value} (h : CSt w xs ys ks ts wr) (hb : Below wr.heap.size wr w') : CSt w xs ys ks ts w' := ⟨own_below h.k hb, own_below h.t hb, bel_next h.bel hb⟩
theorem CSt.pushK {w wr w1 : World} {xs ys : List Value} {ks ts v : Value} {o : Obj} {x : Value} (h : CSt w xs ys ks ts wr) (hg : (wr.alloc o).grownBy w1 ks.ownBlock) (ho : w1.ownsRow w.heap.size 3 1 v (xs.length + 1) (xs ++ [x])) : CSt w (xs ++ [x]) ys v ts w1 :=
  ⟨by rw [List.length_append]; exact ho, (h.t.alloc o).kept hg (own_apart h.t h.k (by decide)), push_below h.bel h.bel.size h.k hg⟩
theorem CSt.pushT {w wr w1 : World} {xs ys : List Value} {ks ts v : Value} {o : Obj} {x : Value} (h : CSt w xs ys ks ts wr) (hg : (wr.alloc o).grownBy w1 ts.ownBlock) (ho : w1.ownsRow w.heap.size 9 1 v (ys.length + 1) (ys ++ [x])) : CSt w xs (ys ++ [x]) ks v w1 :=
  ⟨(h.k.alloc o).kept hg (own_apart h.k h.t (by decide)), by rw [List.length_append]; exact ho, push_below h.bel h.bel.size h.t hg⟩
def kV (p : Int × List UInt8) : Value := .int .i64 p.1
def tV (p : Int × List UInt8) : Value := .string ⟨p.2.toArray⟩
def ComRel (w wr : World) (k : Nat) (s ks ts ln : Value) : Prop :=
  ∃ (js : List Nat) (S : ByteArray), k = js.length ∧ s = .string S ∧ S.data.toList = 97 :: cText 0 js ∧ ln = .bool (cLine js) ∧ CSt w ((cRow 0 js).map kV) ((cRow 0 js).map tV) ks ts wr ∧ S.size ≤ 8 * k + 1
theorem com_rel {w w' : World} {js : List Nat} {S X : ByteArray} {k : Nat} (hk : k = js.length) (hS : S.data.toList = 97 :: cText 0 js) (hz : S.size ≤ 8 * k + 1) (hk20 : k < 20) (j : Nat) {ks ts : Value} {xs ys xs' ys' : List Value} {b b' : Bool} (hX : X.data.toList = S.data.toList ++ cItem k j) (hb : cLine js = b) (hln : b' = (b || cLn j))
    (hx : (cRow 0 js).map kV = xs) (hy : (cRow 0 js).map tV = ys) (hst : CSt w xs' ys' ks ts w') (hxs : xs' = xs ++ (cOne k j).map kV) (hys : ys' = ys ++ (cOne k j).map tV) : ComRel w w' (k + 1) (.string X) ks ts (.bool b') := by
  obtain ⟨h1, h2⟩ := dcl_digits ⟨k, hk20⟩
  simp only at h1
  have hl : (cItem k j).length ≤ 7 := by
    match j with
    | 0 => simp [cItem]
    | 1 => simp [cItem]; omega
    | 2 => simp [cItem]; omega
    | _ + 3 => simp [cItem]
  refine ⟨js ++ [j], X, by simp [hk], rfl, ?_, by rw [hln, cLine_snoc, hb], ?_, ?_⟩
  · rw [hX, hS, cText_snoc, Nat.zero_add, hk]
    rfl
  · rw [cRow_snoc, Nat.zero_add, ← hk, List.map_append, List.map_append, hx, hy, ← hxs, ← hys]
    exact hst
  · rw [← ofl, hX, List.length_append, ofl]
    omega
theorem next_cm (S : ByteArray) (q : Nat) (line : Bool) (cs : List Cm) (W : World) (hs : S.size ≤ 16777216) (hp : 1 ≤ S.size) (h : Lx W) (hO : nxt S 1 1 = .fine 5 q 1 line cs) (T : ByteArray) (hT : S.extract q (q + 1) = T) (fz tz : Int) (hf : fz = q) (ht : tz = (q : Int) + 1) :
    Calls Tryd.prog 14 #[.string S, .int .i64 1, .int .i64 1] W fun e w' => (∃ vp cap, e = .returned (.tuple #[.agg #[.int .i64 5, .string T, .int .i64 fz, .int .i64 tz, .bool line], .slice vp cs.length cap, .int .i64 0, .int .i64 0]) ∧ OwnC W.heap.size w' (.slice vp cs.length cap) cs) ∧ Below W.heap.size W w' := by
  have hN := Next_any S 1 1 W hs hp h 1 rfl
  rw [hO] at hN
  refine hN.mono fun e w' => ?_
  rintro ⟨v, rfl, ho, hb⟩
  obtain ⟨vp, cap, rfl⟩ := ho.form
  refine ⟨⟨vp, cap, ?_, ho⟩, hb⟩
  simp only [Tk.val, Tk.cells]
  rw [hT, hf, ht]
  rfl
theorem ba_lit (l : List UInt8) : (⟨l.toArray⟩ : ByteArray).data.toList = l := rfl
theorem tells_len {cs : List Cm} {r : List (Int × List UInt8)} (h : tells cs = r) : r.length = cs.length := by rw [← h]; simp [tells]
theorem tells_k {cs : List Cm} {r : List (Int × List UInt8)} (h : tells cs = r) (i : Nat) (hi : i < cs.length) : (r.map kV)[i]? = some (.int .i64 cs[i].kind) := by
  rw [← h]
  simp [tells, kV, List.getElem?_eq_getElem hi]
theorem tells_t {cs : List Cm} {r : List (Int × List UInt8)} (h : tells cs = r) (i : Nat) (hi : i < cs.length) : (r.map tV)[i]? = some (.string cs[i].text) := by
  rw [← h]
  simp [tells, tV, List.getElem?_eq_getElem hi]
/-- the law's end: the three rows. -/
structure CEnd (w : World) (n : Nat) (cs : List Cm) (v ks ts : Value) (xs ys : List Value) (wr : World) : Prop where
  own : OwnC w.heap.size wr v cs
  k : wr.ownsRow w.heap.size 3 1 ks n xs
  t : wr.ownsRow w.heap.size 9 1 ts n ys
  bel : Below w.heap.size w wr
theorem CEnd.bel' {w wr w' : World} {n : Nat} {cs : List Cm} {v ks ts : Value} {xs ys : List Value} (h : CEnd w n cs v ks ts xs ys wr) (hb : Below wr.heap.size wr w') : CEnd w n cs v ks ts xs ys w' := ⟨h.own.bel hb, own_below h.k hb, own_below h.t hb, bel_next h.bel hb⟩
theorem own_at {w : World} {b n : Nat} {e : TypeId} {p : Option Addr} {cap : Nat} {xs : List Value} (h : w.ownsRow b e 1 (.slice p n cap) n xs) (i : Nat) (hi : i < n) : ∃ g, p = some ⟨g, 0, none⟩ ∧ n ≤ cap ∧ w.cell? ⟨g, i, none⟩ = xs[i]? := by
  rcases h.2 with ⟨_, h0⟩ | ⟨g, cap', cur, hv, _, _, hc, _⟩
  · omega
  · obtain ⟨rfl, _, rfl⟩ := Value.slice.inj hv
    exact ⟨g, rfl, hc, h.cellAt i (by omega)⟩
set_option maxRecDepth 100000 in
set_option maxHeartbeats 16000000 in
theorem lexcomments_any (ao : Option Addr) (len cap : Nat) (w : World) (hc : IntsArg w ao len) (hl : len ≤ 33554432) (hX : Lx w) :
    Calls Tryd.prog 9 #[.slice ao len cap] w fun e w' => e = .returned (.bool true) ∧ Below w.heap.size w w' := by
  obtain ⟨i0, hi, hz0, hz1, hz2⟩ := info_parts infoInt8
  obtain ⟨i1, hi1, hy0, hy1, hy2⟩ := info_parts infoStr16
  have HC := Lib.hid hc
  have HA := Lib.hid (lawake_any w hX)
  have HX := Lib.hid hX
  clear hc hX
  go_enter Tryd.func9, Tryd.ntmps9
  go_wp2_with (go_at_call 13; refine HA.out.mono ?_; rintro e w1 ⟨rfl, hb1⟩)
  go_loopw [3, 4, 5, 6, 7] (fun s ks ts ln i wr => ∃ k : Nat, k ≤ len ∧ k ≤ 20 ∧ i = .int .i64 k ∧ ComRel w wr k s ks ts ln) (fun _ _ _ _ i _ => 20 - (intOf i).toNat)
  case atStart => exact ⟨0, Nat.zero_le _, by omega, rfl, [], _, rfl, rfl, rfl, rfl, ⟨World.ownsRow_nil _ _ _ _, World.ownsRow_nil _ _ _ _, hb1⟩, Nat.le_refl 1⟩
  case round =>
    clear hb1
    obtain ⟨k, hk, hk20, rfl, js, S, hkl, rfl, hS, rfl, hst, hSs⟩ := hrel
    have HS := Lib.hid hS
    have HK := Lib.hid hkl
    clear hS hkl
    have hxl : ((cRow 0 js).map kV).length ≤ 20 := by rw [List.length_map]; have := cRow_len js 0; have := HK.out; omega
    have hyl : ((cRow 0 js).map tV).length ≤ 20 := by rw [List.length_map]; have := cRow_len js 0; have := HK.out; omega
    by_cases hlt : k < len ∧ k < 20
    · obtain ⟨hlt, hlt20⟩ := hlt
      obtain ⟨b, off, rfl, hb, z, hz⟩ := HC.out k hlt
      rw [← hst.bel.cell (p := ⟨b, off + k, none⟩) hb] at hz
      go_upto_region 15 with fail
      have hr0 : 0 ≤ (IntKind.u64.wrap z).tmod 4 ∧ (IntKind.u64.wrap z).tmod 4 < 4 := by
        have e : IntKind.u64.wrap z = z % 18446744073709551616 := rfl
        rw [e, Int.tmod_eq_emod_of_nonneg (by omega)]
        omega
      have h4 : ∀ r : Int, 0 ≤ r ∧ r < 4 → r = 0 ∨ r = 1 ∨ r = 2 ∨ r = 3 := by omega
      have hd20 := fun W => decimal20 k hlt20 W
      generalize hdd : (⟨(dcl k).toArray⟩ : ByteArray) = D at *
      have hDl : D.data.toList = dcl k := by rw [← hdd]
      have hDs : D.size ≤ 2 := by rw [← ofl, hDl]; exact (dcl_digits ⟨k, hlt20⟩).1
      have HD := Lib.hid hd20
      have HDL := Lib.hid hDl
      generalize hxs : (cRow 0 js).map kV = xs at *
      generalize hys : (cRow 0 js).map tV = ys at *
      generalize hbl : cLine js = bl at *
      have HXS := Lib.hid hxs
      have HYS := Lib.hid hys
      have HBL := Lib.hid hbl
      have HST := Lib.hid hst
      have hwz := hst.bel.size
      clear hd20 hdd hDl hxs hys hbl hst HC hz
      rcases h4 _ hr0 with hm | hm | hm | hm
      · have HT := Lib.hid (show True from trivial)
        clear HD
        go_wp2_with fail
        go_roundw
        case rel => exact ⟨k + 1, hlt, by omega, by go_num, com_rel HK.out HS.out hSs hlt20 0 (by simp [ByteArray.data_append, cItem]) HBL.out (by simp [cLn]) HXS.out HYS.out HST.out (by simp [cOne]) (by simp [cOne])⟩
        case measure => simp [intOf]; omega
      · have HT := Lib.hid (show [Value.string (⟨#[47, 47]⟩ ++ D ++ ⟨#[32]⟩)] = (cOne k 1).map tV from congrArg (fun x : ByteArray => [Value.string x]) (byteArray_ext (⟨#[47, 47]⟩ ++ D ++ ⟨#[32]⟩) ([47, 47] ++ dcl k ++ [32]) (by simp [ByteArray.data_append, HDL.out])).symm)
        go_upto_region 19 with (go_at_call 18; refine (HD.out _).mono ?_; rintro e w5 ⟨rfl, hb5⟩)
        have hs1 := HST.out.bel' hb5
        have hz1' := hs1.bel.size
        clear hb5
        go_wp2_with (at_builtin; refine wpList_append_own_at _ rfl _ _ 36 rfl w.heap.size 3 i0 (.int .i64 0) 1 8 (by kernel_rfl) hi hz0 hz1 hz2 rfl (by decide) _ _ _ rfl (hs1.k.alloc _) ⟨w5.heap.size, 0, none⟩ 1 1 [.int .i64 1] rfl rfl (cell_new1 _ _ _) (fun u hu => by simp at hu; subst hu; rfl) (by unfold maxLen; omega) (by omega) (by rw [World.size_alloc]; omega) ?_)
        intro v6 w6 hown6 hgrow6 _ _
        have hs2 := hs1.pushK hgrow6 hown6
        have hz2' := hs2.bel.size
        clear hown6 hgrow6 hs1
        go_wp2_with (first | (go_at_call 18; refine (HD.out _).mono ?_; rintro e w7 ⟨rfl, hb7⟩; have hs3 := hs2.bel' hb7; have hz3' := hs3.bel.size) | (at_builtin; refine wpList_append_own_at _ rfl _ _ 33 rfl w.heap.size 9 i1 (.string ⟨#[]⟩) 1 16 (by kernel_rfl) hi1 hy0 hy1 hy2 rfl (by decide) _ _ _ rfl (hs3.t.alloc _) ⟨w7.heap.size, 0, none⟩ 1 1 [.string (⟨#[47, 47]⟩ ++ D ++ ⟨#[32]⟩)] rfl rfl (cell_new1 _ _ _) (fun u hu => by simp at hu; subst hu; rfl) (by unfold maxLen; omega) (by omega) (by rw [World.size_alloc]; omega) ?_))
        intro v8 w8 hown8 hgrow8 _ _
        have hs4 := hs3.pushT hgrow8 hown8
        clear hown8 hgrow8 hs3 hs2 hb7
        go_wp2_with fail
        go_roundw
        case rel => exact ⟨k + 1, hlt, by omega, by go_num, com_rel HK.out HS.out hSs hlt20 1 (by simp [ByteArray.data_append, cItem, HDL.out]) HBL.out (by simp [cLn]) HXS.out HYS.out hs4 (by simp [cOne, kV]) (by rw [← HT.out])⟩
        case measure => simp [intOf]; omega
      · have HT := Lib.hid (show [Value.string (⟨#[47, 42]⟩ ++ D ++ ⟨#[42, 42, 47]⟩)] = (cOne k 2).map tV from congrArg (fun x : ByteArray => [Value.string x]) (byteArray_ext (⟨#[47, 42]⟩ ++ D ++ ⟨#[42, 42, 47]⟩) ([47, 42] ++ dcl k ++ [42, 42, 47]) (by simp [ByteArray.data_append, HDL.out])).symm)
        go_upto_region 24 with (go_at_call 18; refine (HD.out _).mono ?_; rintro e w5 ⟨rfl, hb5⟩)
        have hs1 := HST.out.bel' hb5
        have hz1' := hs1.bel.size
        clear hb5
        go_wp2_with (at_builtin; refine wpList_append_own_at _ rfl _ _ 36 rfl w.heap.size 3 i0 (.int .i64 0) 1 8 (by kernel_rfl) hi hz0 hz1 hz2 rfl (by decide) _ _ _ rfl (hs1.k.alloc _) ⟨w5.heap.size, 0, none⟩ 1 1 [.int .i64 2] rfl rfl (cell_new1 _ _ _) (fun u hu => by simp at hu; subst hu; rfl) (by unfold maxLen; omega) (by omega) (by rw [World.size_alloc]; omega) ?_)
        intro v6 w6 hown6 hgrow6 _ _
        have hs2 := hs1.pushK hgrow6 hown6
        have hz2' := hs2.bel.size
        clear hown6 hgrow6 hs1
        go_wp2_with (first | (go_at_call 18; refine (HD.out _).mono ?_; rintro e w7 ⟨rfl, hb7⟩; have hs3 := hs2.bel' hb7; have hz3' := hs3.bel.size) | (at_builtin; refine wpList_append_own_at _ rfl _ _ 33 rfl w.heap.size 9 i1 (.string ⟨#[]⟩) 1 16 (by kernel_rfl) hi1 hy0 hy1 hy2 rfl (by decide) _ _ _ rfl (hs3.t.alloc _) ⟨w7.heap.size, 0, none⟩ 1 1 [.string (⟨#[47, 42]⟩ ++ D ++ ⟨#[42, 42, 47]⟩)] rfl rfl (cell_new1 _ _ _) (fun u hu => by simp at hu; subst hu; rfl) (by unfold maxLen; omega) (by omega) (by rw [World.size_alloc]; omega) ?_))
        intro v8 w8 hown8 hgrow8 _ _
        have hs4 := hs3.pushT hgrow8 hown8
        clear hown8 hgrow8 hs3 hs2 hb7
        go_wp2_with fail
        go_roundw
        case rel => exact ⟨k + 1, hlt, by omega, by go_num, com_rel HK.out HS.out hSs hlt20 2 (by simp [ByteArray.data_append, cItem, HDL.out]) HBL.out (by simp [cLn]) HXS.out HYS.out hs4 (by simp [cOne, kV]) (by rw [← HT.out])⟩
        case measure => simp [intOf]; omega
      · have HT := Lib.hid (show True from trivial)
        clear HD
        go_wp2_with (at_builtin; refine wpList_append_own_at _ rfl _ _ 36 rfl w.heap.size 3 i0 (.int .i64 0) 1 8 (by kernel_rfl) hi hz0 hz1 hz2 rfl (by decide) _ _ _ rfl (HST.out.k.alloc _) ⟨wr.heap.size, 0, none⟩ 1 1 [.int .i64 2] rfl rfl (cell_new1 _ _ _) (fun u hu => by simp at hu; subst hu; rfl) (by unfold maxLen; omega) (by omega) (by rw [World.size_alloc]; omega) ?_)
        intro v6 w6 hown6 hgrow6 _ _
        have hs2 := HST.out.pushK hgrow6 hown6
        have hz2' := hs2.bel.size
        clear hown6 hgrow6
        go_wp2_with (at_builtin; refine wpList_append_own_at _ rfl _ _ 33 rfl w.heap.size 9 i1 (.string ⟨#[]⟩) 1 16 (by kernel_rfl) hi1 hy0 hy1 hy2 rfl (by decide) _ _ _ rfl (hs2.t.alloc _) ⟨w6.heap.size, 0, none⟩ 1 1 [.string ⟨#[47, 42, 10, 47, 42, 47]⟩] rfl rfl (cell_new1 _ _ _) (fun u hu => by simp at hu; subst hu; rfl) (by unfold maxLen; omega) (by omega) (by rw [World.size_alloc]; omega) ?_)
        intro v8 w8 hown8 hgrow8 _ _
        have hs4 := hs2.pushT hgrow8 hown8
        clear hown8 hgrow8 hs2
        go_wp2_with fail
        go_roundw
        case rel => exact ⟨k + 1, hlt, by omega, by go_num, com_rel HK.out HS.out hSs hlt20 3 (by simp [ByteArray.data_append, cItem]) HBL.out (by simp [cLn]) HXS.out HYS.out hs4 (by simp [cOne, kV]) (by simp [cOne, tV])⟩
        case measure => simp [intOf]; omega
    · have hend : k = len ∨ (k = 20 ∧ 20 < len) := by omega
      rcases hend with rfl | ⟨rfl, hl20⟩
      · obtain ⟨T, hT⟩ : ∃ T : ByteArray, T = S ++ ⟨#[59]⟩ := ⟨_, rfl⟩
        have hTl : T.data.toList = 97 :: (cText 0 js ++ [59]) := by rw [hT]; simp [ByteArray.data_append, HS.out]
        have one59 : (⟨#[59]⟩ : ByteArray).size = 1 := rfl
        have s16 : T.size ≤ 16777216 := by rw [hT, ByteArray.size_append, one59]; omega
        have s1 : 1 ≤ T.size := by rw [hT, ByteArray.size_append, one59]; omega
        obtain ⟨cs, q, hO, htl, hex, hqs⟩ := comments_nxt (js := js) (by have := HK.out; omega) hTl
        have hlen := tells_len htl
        have hlk : ((cRow 0 js).map kV).length = cs.length := by rw [List.length_map]; exact hlen
        have hlt' : ((cRow 0 js).map tV).length = cs.length := by rw [List.length_map]; exact hlen
        have hko := hst.k
        have hto := hst.t
        rw [hlk] at hko
        rw [hlt'] at hto
        have hk3 := fun i hi => tells_k htl i hi
        have ht3 := fun i hi => tells_t htl i hi
        have hcl : cs.length ≤ 20 := by omega
        have hbel := hst.bel
        generalize (cRow 0 js).map kV = xs at *
        generalize (cRow 0 js).map tV = ys at *
        generalize cLine js = bl at *
        obtain ⟨fz, hfz⟩ : ∃ fz : Int, fz = q := ⟨_, rfl⟩
        obtain ⟨tz, htz⟩ : ∃ tz : Int, tz = (q : Int) + 1 := ⟨_, rfl⟩
        have hN := fun W h => next_cm T q bl cs W s16 s1 h hO ⟨#[59]⟩ hex fz tz hfz htz
        clear one59 s16 s1 hO hex hqs hTl
        rw [hT] at hN
        have HN := Lib.hid hN
        clear hN hT
        have HK3 := Lib.hid hk3
        have HT3 := Lib.hid ht3
        obtain ⟨pk, ck, hpk⟩ := own_form hko
        obtain ⟨pt, ct, hpt⟩ := own_form hto
        subst hpk
        subst hpt
        have HKO := Lib.hid hko
        have HTO := Lib.hid hto
        have HBE := Lib.hid hbel
        have hwz := hbel.size
        clear htl hlen hlk hlt' hko hto hk3 ht3 hst HC HS HK hfz htz hxl hyl hbel
        go_upto_region 27 with (go_at_call 14; refine (HN.out _ (HX.out.bel HBE.out)).mono ?_; rintro e w5 ⟨⟨vp, cap3, rfl, ho⟩, hb5⟩)
        have hk5 : TkAt (w5.alloc (.cells #[.int .i64 5, .string ⟨#[59]⟩, .int .i64 fz, .int .i64 tz, .bool bl] 24)) w5.heap.size ⟨5, ⟨#[59]⟩, fz, tz, bl⟩ := heap_alloc_new _ _
        have hce : CEnd w cs.length cs (.slice vp cs.length cap3) (.slice pk cs.length ck) (.slice pt cs.length ct) xs ys w5 := ⟨ho.mono hwz, own_below HKO.out hb5, own_below HTO.out hb5, bel_next HBE.out hb5⟩
        have hce2 := hce.bel' (Below.alloc (Below.refl _ w5) (Nat.le_refl _) (.cells #[.int .i64 5, .string ⟨#[59]⟩, .int .i64 fz, .int .i64 tz, .bool bl] 24))
        generalize World.alloc w5 _ = w6 at *
        generalize w5.heap.size = g6 at *
        clear hb5 ho hce HKO HTO HBE HN hwz
        have HCE := Lib.hid hce2
        clear hce2
        obtain ⟨d0, d1, d2, d3, d4, g0, g1, g2, g3, g4⟩ := TkAt.facts hk5
        clear hk5
        go_upto_region 29 with (go_at_call 15; refine (lnum_any _ _).mono ?_; rintro e w' ⟨rfl, rfl⟩)
        clear d0 d1 d2 d3 d4 g0 g1 g2 g3 g4
        go_wp2_with fail
        have hce0 := HCE.out
        clear HCE
        go_loopw [12] (fun i wr2 => ∃ k2 : Nat, k2 ≤ cs.length ∧ i = .int .i64 k2 ∧ CEnd w cs.length cs (.slice vp cs.length cap3) (.slice pk cs.length ck) (.slice pt cs.length ct) xs ys wr2) (fun i _ => cs.length - (intOf i).toNat)
        case atStart => exact ⟨0, Nat.zero_le _, rfl, hce0⟩
        case round =>
          clear hce0
          obtain ⟨k2, hk2, rfl, hce⟩ := hrel
          have HCE := Lib.hid hce
          clear hce
          by_cases hlt2 : k2 < cs.length
          · obtain ⟨gv, cap', hv, _, _, hcc, hcell⟩ := HCE.out.own.slice (by intro h; rw [h] at hlt2; simp at hlt2)
            obtain ⟨rfl, _, rfl⟩ := Value.slice.inj hv
            obtain ⟨gk, rfl, hck, m0⟩ := own_at HCE.out.k k2 hlt2
            obtain ⟨gt, rfl, hct, m1⟩ := own_at HCE.out.t k2 hlt2
            rw [HK3.out k2 hlt2] at m0
            rw [HT3.out k2 hlt2] at m1
            have u0 := hcell k2 0 hlt2 (by decide)
            have u1 := hcell k2 1 hlt2 (by decide)
            simp only [cmCells, Nat.add_zero, List.getElem?_cons_zero, List.getElem?_cons_succ] at u0 u1
            generalize cs[k2].kind = K at *
            generalize cs[k2].text = T at *
            clear hcell hv
            go_upto_region 32 with fail
            go_quiet (fail)
            go_wp2_with fail
            go_roundw
            case rel => exact ⟨k2 + 1, by omega, by go_num, HCE.out.bel' (bel_drewN (Below.refl _ _) _)⟩
            case measure => simp [intOf]; omega
          · obtain rfl : k2 = cs.length := by omega
            go_wp2_with fail
            go_ret
            exact ⟨rfl, HCE.out.bel⟩
      · obtain ⟨T, hT⟩ : ∃ T : ByteArray, T = S ++ ⟨#[59]⟩ := ⟨_, rfl⟩
        have hTl : T.data.toList = 97 :: (cText 0 js ++ [59]) := by rw [hT]; simp [ByteArray.data_append, HS.out]
        have one59 : (⟨#[59]⟩ : ByteArray).size = 1 := rfl
        have s16 : T.size ≤ 16777216 := by rw [hT, ByteArray.size_append, one59]; omega
        have s1 : 1 ≤ T.size := by rw [hT, ByteArray.size_append, one59]; omega
        obtain ⟨cs, q, hO, htl, hex, hqs⟩ := comments_nxt (js := js) (by have := HK.out; omega) hTl
        have hlen := tells_len htl
        have hlk : ((cRow 0 js).map kV).length = cs.length := by rw [List.length_map]; exact hlen
        have hlt' : ((cRow 0 js).map tV).length = cs.length := by rw [List.length_map]; exact hlen
        have hko := hst.k
        have hto := hst.t
        rw [hlk] at hko
        rw [hlt'] at hto
        have hk3 := fun i hi => tells_k htl i hi
        have ht3 := fun i hi => tells_t htl i hi
        have hcl : cs.length ≤ 20 := by omega
        have hbel := hst.bel
        generalize (cRow 0 js).map kV = xs at *
        generalize (cRow 0 js).map tV = ys at *
        generalize cLine js = bl at *
        obtain ⟨fz, hfz⟩ : ∃ fz : Int, fz = q := ⟨_, rfl⟩
        obtain ⟨tz, htz⟩ : ∃ tz : Int, tz = (q : Int) + 1 := ⟨_, rfl⟩
        have hN := fun W h => next_cm T q bl cs W s16 s1 h hO ⟨#[59]⟩ hex fz tz hfz htz
        clear one59 s16 s1 hO hex hqs hTl
        rw [hT] at hN
        have HN := Lib.hid hN
        clear hN hT
        have HK3 := Lib.hid hk3
        have HT3 := Lib.hid ht3
        obtain ⟨pk, ck, hpk⟩ := own_form hko
        obtain ⟨pt, ct, hpt⟩ := own_form hto
        subst hpk
        subst hpt
        have HKO := Lib.hid hko
        have HTO := Lib.hid hto
        have HBE := Lib.hid hbel
        have hwz := hbel.size
        clear htl hlen hlk hlt' hko hto hk3 ht3 hst HC HS HK hfz htz hxl hyl hbel
        go_upto_region 27 with (go_at_call 14; refine (HN.out _ (HX.out.bel HBE.out)).mono ?_; rintro e w5 ⟨⟨vp, cap3, rfl, ho⟩, hb5⟩)
        have hk5 : TkAt (w5.alloc (.cells #[.int .i64 5, .string ⟨#[59]⟩, .int .i64 fz, .int .i64 tz, .bool bl] 24)) w5.heap.size ⟨5, ⟨#[59]⟩, fz, tz, bl⟩ := heap_alloc_new _ _
        have hce : CEnd w cs.length cs (.slice vp cs.length cap3) (.slice pk cs.length ck) (.slice pt cs.length ct) xs ys w5 := ⟨ho.mono hwz, own_below HKO.out hb5, own_below HTO.out hb5, bel_next HBE.out hb5⟩
        have hce2 := hce.bel' (Below.alloc (Below.refl _ w5) (Nat.le_refl _) (.cells #[.int .i64 5, .string ⟨#[59]⟩, .int .i64 fz, .int .i64 tz, .bool bl] 24))
        generalize World.alloc w5 _ = w6 at *
        generalize w5.heap.size = g6 at *
        clear hb5 ho hce HKO HTO HBE HN hwz
        have HCE := Lib.hid hce2
        clear hce2
        obtain ⟨d0, d1, d2, d3, d4, g0, g1, g2, g3, g4⟩ := TkAt.facts hk5
        clear hk5
        go_upto_region 29 with (go_at_call 15; refine (lnum_any _ _).mono ?_; rintro e w' ⟨rfl, rfl⟩)
        clear d0 d1 d2 d3 d4 g0 g1 g2 g3 g4
        go_wp2_with fail
        have hce0 := HCE.out
        clear HCE
        go_loopw [12] (fun i wr2 => ∃ k2 : Nat, k2 ≤ cs.length ∧ i = .int .i64 k2 ∧ CEnd w cs.length cs (.slice vp cs.length cap3) (.slice pk cs.length ck) (.slice pt cs.length ct) xs ys wr2) (fun i _ => cs.length - (intOf i).toNat)
        case atStart => exact ⟨0, Nat.zero_le _, rfl, hce0⟩
        case round =>
          clear hce0
          obtain ⟨k2, hk2, rfl, hce⟩ := hrel
          have HCE := Lib.hid hce
          clear hce
          by_cases hlt2 : k2 < cs.length
          · obtain ⟨gv, cap', hv, _, _, hcc, hcell⟩ := HCE.out.own.slice (by intro h; rw [h] at hlt2; simp at hlt2)
            obtain ⟨rfl, _, rfl⟩ := Value.slice.inj hv
            obtain ⟨gk, rfl, hck, m0⟩ := own_at HCE.out.k k2 hlt2
            obtain ⟨gt, rfl, hct, m1⟩ := own_at HCE.out.t k2 hlt2
            rw [HK3.out k2 hlt2] at m0
            rw [HT3.out k2 hlt2] at m1
            have u0 := hcell k2 0 hlt2 (by decide)
            have u1 := hcell k2 1 hlt2 (by decide)
            simp only [cmCells, Nat.add_zero, List.getElem?_cons_zero, List.getElem?_cons_succ] at u0 u1
            generalize cs[k2].kind = K at *
            generalize cs[k2].text = T at *
            clear hcell hv
            go_upto_region 32 with fail
            go_quiet (fail)
            go_wp2_with fail
            go_roundw
            case rel => exact ⟨k2 + 1, by omega, by go_num, HCE.out.bel' (bel_drewN (Below.refl _ _) _)⟩
            case measure => simp [intOf]; omega
          · obtain rfl : k2 = cs.length := by omega
            go_wp2_with fail
            go_ret
            exact ⟨rfl, HCE.out.bel⟩
end Go.Proofs.YtdkkfbakggbaeaaDoor
