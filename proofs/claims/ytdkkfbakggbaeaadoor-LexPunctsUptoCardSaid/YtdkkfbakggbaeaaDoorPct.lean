/- LexPuncts' function answers true: of signs side by side the longest one is taken. Conditions: the argument's cells hold ints; the library's tables. -/
import Derived.Test.YtdkkfbakggbaeaaDoorPuP
namespace Go.Proofs.YtdkkfbakggbaeaaDoor
open Go.RowKit

/-- the signs' row, as it lies in memory. -/
def SgAt (w : World) (g : Nat) : Prop := ∀ j, (h : j < sgAll.length) → w.cell? ⟨g, j, none⟩ = some (.string ⟨(sgAll[j]).toArray⟩)
theorem sg_lit : (#[.string ⟨#[123]⟩, .string ⟨#[125]⟩, .string ⟨#[40]⟩, .string ⟨#[41]⟩, .string ⟨#[91]⟩, .string ⟨#[93]⟩, .string ⟨#[46]⟩, .string ⟨#[46, 46, 46]⟩, .string ⟨#[59]⟩, .string ⟨#[44]⟩, .string ⟨#[60]⟩, .string ⟨#[62]⟩, .string ⟨#[60, 61]⟩, .string ⟨#[62, 61]⟩, .string ⟨#[61, 61]⟩, .string ⟨#[33, 61]⟩, .string ⟨#[61, 61, 61]⟩, .string ⟨#[33, 61, 61]⟩, .string ⟨#[43]⟩, .string ⟨#[45]⟩, .string ⟨#[42]⟩, .string ⟨#[37]⟩, .string ⟨#[42, 42]⟩, .string ⟨#[43, 43]⟩, .string ⟨#[45, 45]⟩, .string ⟨#[60, 60]⟩, .string ⟨#[62, 62]⟩, .string ⟨#[62, 62, 62]⟩, .string ⟨#[38]⟩, .string ⟨#[124]⟩, .string ⟨#[94]⟩, .string ⟨#[33]⟩, .string ⟨#[126]⟩, .string ⟨#[38, 38]⟩, .string ⟨#[124, 124]⟩, .string ⟨#[63, 63]⟩, .string ⟨#[63]⟩, .string ⟨#[63, 46]⟩, .string ⟨#[58]⟩, .string ⟨#[61]⟩, .string ⟨#[43, 61]⟩, .string ⟨#[45, 61]⟩, .string ⟨#[42, 61]⟩, .string ⟨#[37, 61]⟩, .string ⟨#[42, 42, 61]⟩, .string ⟨#[60, 60, 61]⟩, .string ⟨#[62, 62, 61]⟩, .string ⟨#[62, 62, 62, 61]⟩, .string ⟨#[38, 61]⟩, .string ⟨#[124, 61]⟩, .string ⟨#[94, 61]⟩, .string ⟨#[38, 38, 61]⟩, .string ⟨#[124, 124, 61]⟩, .string ⟨#[63, 63, 61]⟩, .string ⟨#[61, 62]⟩, .string ⟨#[47]⟩, .string ⟨#[47, 61]⟩] : Array Value) = (sgAll.map fun a => Value.string ⟨a.toArray⟩).toArray := by kernel_rfl
theorem sg_new (w : World) (T : TypeId) : SgAt (w.alloc (.cells #[.string ⟨#[123]⟩, .string ⟨#[125]⟩, .string ⟨#[40]⟩, .string ⟨#[41]⟩, .string ⟨#[91]⟩, .string ⟨#[93]⟩, .string ⟨#[46]⟩, .string ⟨#[46, 46, 46]⟩, .string ⟨#[59]⟩, .string ⟨#[44]⟩, .string ⟨#[60]⟩, .string ⟨#[62]⟩, .string ⟨#[60, 61]⟩, .string ⟨#[62, 61]⟩, .string ⟨#[61, 61]⟩, .string ⟨#[33, 61]⟩, .string ⟨#[61, 61, 61]⟩, .string ⟨#[33, 61, 61]⟩, .string ⟨#[43]⟩, .string ⟨#[45]⟩, .string ⟨#[42]⟩, .string ⟨#[37]⟩, .string ⟨#[42, 42]⟩, .string ⟨#[43, 43]⟩, .string ⟨#[45, 45]⟩, .string ⟨#[60, 60]⟩, .string ⟨#[62, 62]⟩, .string ⟨#[62, 62, 62]⟩, .string ⟨#[38]⟩, .string ⟨#[124]⟩, .string ⟨#[94]⟩, .string ⟨#[33]⟩, .string ⟨#[126]⟩, .string ⟨#[38, 38]⟩, .string ⟨#[124, 124]⟩, .string ⟨#[63, 63]⟩, .string ⟨#[63]⟩, .string ⟨#[63, 46]⟩, .string ⟨#[58]⟩, .string ⟨#[61]⟩, .string ⟨#[43, 61]⟩, .string ⟨#[45, 61]⟩, .string ⟨#[42, 61]⟩, .string ⟨#[37, 61]⟩, .string ⟨#[42, 42, 61]⟩, .string ⟨#[60, 60, 61]⟩, .string ⟨#[62, 62, 61]⟩, .string ⟨#[62, 62, 62, 61]⟩, .string ⟨#[38, 61]⟩, .string ⟨#[124, 61]⟩, .string ⟨#[94, 61]⟩, .string ⟨#[38, 38, 61]⟩, .string ⟨#[124, 124, 61]⟩, .string ⟨#[63, 63, 61]⟩, .string ⟨#[61, 62]⟩, .string ⟨#[47]⟩, .string ⟨#[47, 61]⟩] T)) w.heap.size := by
  intro j hj
  rw [cell_of_row _ _ j _ T (0, 0) (heap_alloc_new _ _), sg_lit]
  simp [List.getElem?_eq_getElem hj]
theorem SgAt.bel {w w' : World} {g : Nat} (h : SgAt w g) (hg : g < w.heap.size) (hb : Below w.heap.size w w') : SgAt w' g := fun j hj => (hb.cell (p := ⟨g, j, none⟩) hg).trans (h j hj)
/-- the text under way. -/
def SgText (k : Nat) (S : ByteArray) : Prop := (∀ c ∈ S.data.toList, sgC c = true) ∧ ((S.size = 0 ∧ k = 0) ∨ (0 < S.size ∧ ∃ a ∈ sgAll, Lib.hasPrefix S.data.toList a = true)) ∧ S.size ≤ 4 * k
theorem hasPrefix_self_app (a b : List UInt8) : Lib.hasPrefix (a ++ b) a = true := by
  show a.isPrefixOf (a ++ b) = true
  exact List.isPrefixOf_iff_prefix.2 (List.prefix_append a b)
theorem prefix_mono {l a b : List UInt8} (h : Lib.hasPrefix l a = true) : Lib.hasPrefix (l ++ b) a = true := by
  have h1 := List.isPrefixOf_iff_prefix.1 (show a.isPrefixOf l = true from h)
  exact List.isPrefixOf_iff_prefix.2 (h1.trans (List.prefix_append l b))
theorem SgText.push {k : Nat} {S : ByteArray} (h : SgText k S) (j : Nat) (hj : j < sgAll.length) (I : ByteArray) (hI : I = ⟨(sgAll[j]).toArray⟩) : SgText (k + 1) (S ++ I) := by
  obtain ⟨h1, h2, h3⟩ := h
  have hm : sgAll[j] ∈ sgAll := List.getElem_mem hj
  obtain ⟨c1, c2, c3⟩ := sgAll_chars _ hm
  have hl : I.data.toList = sgAll[j] := by rw [hI]
  have hs : I.size = (sgAll[j]).length := by rw [← ofl, hl]
  have hpos := List.length_pos_iff.2 c1
  have ha : (S ++ I).data.toList = S.data.toList ++ sgAll[j] := by rw [← hl]; simp [ByteArray.data_append]
  refine ⟨?_, .inr ⟨by rw [ByteArray.size_append]; omega, ?_⟩, by rw [ByteArray.size_append]; omega⟩
  · intro c hc
    rw [ha] at hc
    rcases List.mem_append.1 hc with h | h
    · exact h1 c h
    · exact c3 c h
  · rcases h2 with ⟨h0, _⟩ | ⟨_, a, haa, hp⟩
    · refine ⟨sgAll[j], hm, ?_⟩
      have hn : S.data.toList = [] := List.length_eq_zero_iff.1 (by rw [ofl]; exact h0)
      rw [ha, hn]
      have := hasPrefix_self_app sgAll[j] []
      rw [List.append_nil] at this
      exact this
    · exact ⟨a, haa, by rw [ha]; exact prefix_mono hp⟩
theorem sg57 : sgAll.length = 57 := rfl
/-- the longest sign under way. -/
def LongAt (S : ByteArray) (k : Nat) (L : ByteArray) : Prop := L = S.extract 0 (mx S.data.toList (sgAll.take k) 0)
theorem LongAt.size {S L : ByteArray} {k : Nat} (h : LongAt S k L) : L.size = mx S.data.toList (sgAll.take k) 0 ∧ L.size ≤ S.size := by
  have h1 := mx_le S.data.toList (sgAll.take k) 0 (Nat.zero_le _)
  rw [ofl] at h1
  rw [h, ByteArray.size_extract]
  omega
theorem LongAt.yes {S L A : ByteArray} {k : Nat} (h : LongAt S k L) (hk : k < sgAll.length) (hA : A = ⟨(sgAll[k]).toArray⟩) (hp : Lib.hasPrefix S.data.toList A.data.toList = true) (hl : L.size < A.size) : LongAt S (k + 1) A := by
  have e : A.data.toList = sgAll[k] := by rw [hA]
  have hs : A.size = (sgAll[k]).length := by rw [← ofl, e]
  unfold LongAt
  rw [mx_step _ _ _ hk, ← h.size.1, ← hs, ← e, hp, decide_eq_true hl]
  apply ba_ext
  rw [extract_take]
  have := prefix_take hp
  rw [ofl] at this
  exact this.symm
theorem LongAt.no {S L A : ByteArray} {k : Nat} (h : LongAt S k L) (hk : k < sgAll.length) (hA : A = ⟨(sgAll[k]).toArray⟩) (hp : Lib.hasPrefix S.data.toList A.data.toList = false ∨ A.size ≤ L.size) : LongAt S (k + 1) L := by
  have e : A.data.toList = sgAll[k] := by rw [hA]
  have hs : A.size = (sgAll[k]).length := by rw [← ofl, e]
  have hn : (Lib.hasPrefix S.data.toList sgAll[k] && decide (mx S.data.toList (sgAll.take k) 0 < (sgAll[k]).length)) = false := by
    rcases hp with hp | hp
    · rw [← e, hp]; rfl
    · rw [← h.size.1, ← hs, decide_eq_false (by omega), Bool.and_false]
  unfold LongAt
  rw [mx_step _ _ _ hk, hn]
  exact h
theorem pre_extract (S A : ByteArray) : ((S.extract 0 A.size).toList == A.toList) = Lib.hasPrefix S.data.toList A.data.toList := by
  rw [Lib.toList_data, Lib.toList_data, extract_take, Bool.eq_iff_iff, beq_iff_eq]
  constructor
  · intro e
    have := hasPrefix_self_app A.data.toList (S.data.toList.drop A.size)
    rw [← e, List.take_append_drop] at this
    rw [← e]
    exact this
  · intro hp
    have := prefix_take hp
    rw [ofl] at this
    exact this
theorem pre_long {S A : ByteArray} (h : S.size < A.size) : Lib.hasPrefix S.data.toList A.data.toList = false := by
  cases hp : Lib.hasPrefix S.data.toList A.data.toList with
  | false => rfl
  | true =>
    have := prefix_len hp
    rw [ofl, ofl] at this
    omega
theorem LongAt.zero (S : ByteArray) : LongAt S 0 ⟨#[]⟩ := by
  apply ba_ext
  rw [extract_take]
  rfl
theorem two_pre {S : ByteArray} {d : UInt8} (h : ¬ ∃ h1 : 1 < S.size, S[0] = 47 ∧ (S[1] = 47 ∨ S[1] = 42)) (hd : d = 47 ∨ d = 42) : Lib.hasPrefix S.data.toList [47, d] = false := by
  cases hp : Lib.hasPrefix S.data.toList [47, d] with
  | false => rfl
  | true =>
    exfalso
    apply h
    have h2 := prefix_len hp
    rw [ofl] at h2
    have h1 : 1 < S.size := h2
    refine ⟨h1, ?_⟩
    have a := drop_cons S 0 (by omega)
    have b := drop_cons S 1 h1
    rw [List.drop_zero] at a
    rw [a, b] at hp
    have hp2 : ((47 : UInt8) == S[0] && (d == S[1] && true)) = true := hp
    simp only [Bool.and_eq_true, beq_iff_eq, and_true] at hp2
    refine ⟨hp2.1.symm, ?_⟩
    rw [← hp2.2]
    exact hd
def PuRel (w : World) (g : Nat) (wr : World) (k : Nat) (v : Value) : Prop := ∃ S : ByteArray, v = .string S ∧ SgText k S ∧ SgAt wr g ∧ g < wr.heap.size ∧ w.heap.size ≤ g ∧ Below w.heap.size w wr
set_option maxRecDepth 100000 in
set_option maxHeartbeats 8000000 in
/-- behind the text: the signs' row, the text and its token are known. -/
theorem lexpuncts_any (ao : Option Addr) (len cap : Nat) (w : World) (hc : IntsArg w ao len) (hl : len ≤ 33554432) (hX : Lx w) :
    Calls Tryd.prog 6 #[.slice ao len cap] w fun e w' => e = .returned (.bool true) ∧ Below w.heap.size w w' := by
  have HC := Lib.hid hc
  have HA := Lib.hid (lawake_any w hX)
  have HX := Lib.hid hX
  clear hc hX
  go_enter Tryd.func6, Tryd.ntmps6
  go_upto_region 4 with (go_at_call 13; refine HA.out.mono ?_; rintro e w1 ⟨rfl, hb1⟩)
  have hsg := sg_new w1 9
  have hsz : w1.heap.size < (w1.alloc (.cells #[.string ⟨#[123]⟩, .string ⟨#[125]⟩, .string ⟨#[40]⟩, .string ⟨#[41]⟩, .string ⟨#[91]⟩, .string ⟨#[93]⟩, .string ⟨#[46]⟩, .string ⟨#[46, 46, 46]⟩, .string ⟨#[59]⟩, .string ⟨#[44]⟩, .string ⟨#[60]⟩, .string ⟨#[62]⟩, .string ⟨#[60, 61]⟩, .string ⟨#[62, 61]⟩, .string ⟨#[61, 61]⟩, .string ⟨#[33, 61]⟩, .string ⟨#[61, 61, 61]⟩, .string ⟨#[33, 61, 61]⟩, .string ⟨#[43]⟩, .string ⟨#[45]⟩, .string ⟨#[42]⟩, .string ⟨#[37]⟩, .string ⟨#[42, 42]⟩, .string ⟨#[43, 43]⟩, .string ⟨#[45, 45]⟩, .string ⟨#[60, 60]⟩, .string ⟨#[62, 62]⟩, .string ⟨#[62, 62, 62]⟩, .string ⟨#[38]⟩, .string ⟨#[124]⟩, .string ⟨#[94]⟩, .string ⟨#[33]⟩, .string ⟨#[126]⟩, .string ⟨#[38, 38]⟩, .string ⟨#[124, 124]⟩, .string ⟨#[63, 63]⟩, .string ⟨#[63]⟩, .string ⟨#[63, 46]⟩, .string ⟨#[58]⟩, .string ⟨#[61]⟩, .string ⟨#[43, 61]⟩, .string ⟨#[45, 61]⟩, .string ⟨#[42, 61]⟩, .string ⟨#[37, 61]⟩, .string ⟨#[42, 42, 61]⟩, .string ⟨#[60, 60, 61]⟩, .string ⟨#[62, 62, 61]⟩, .string ⟨#[62, 62, 62, 61]⟩, .string ⟨#[38, 61]⟩, .string ⟨#[124, 61]⟩, .string ⟨#[94, 61]⟩, .string ⟨#[38, 38, 61]⟩, .string ⟨#[124, 124, 61]⟩, .string ⟨#[63, 63, 61]⟩, .string ⟨#[61, 62]⟩, .string ⟨#[47]⟩, .string ⟨#[47, 61]⟩] 9)).heap.size := by rw [World.size_alloc]; omega
  have hbb := below_alloc2' hb1 (.cells #[.string ⟨#[123]⟩, .string ⟨#[125]⟩, .string ⟨#[40]⟩, .string ⟨#[41]⟩, .string ⟨#[91]⟩, .string ⟨#[93]⟩, .string ⟨#[46]⟩, .string ⟨#[46, 46, 46]⟩, .string ⟨#[59]⟩, .string ⟨#[44]⟩, .string ⟨#[60]⟩, .string ⟨#[62]⟩, .string ⟨#[60, 61]⟩, .string ⟨#[62, 61]⟩, .string ⟨#[61, 61]⟩, .string ⟨#[33, 61]⟩, .string ⟨#[61, 61, 61]⟩, .string ⟨#[33, 61, 61]⟩, .string ⟨#[43]⟩, .string ⟨#[45]⟩, .string ⟨#[42]⟩, .string ⟨#[37]⟩, .string ⟨#[42, 42]⟩, .string ⟨#[43, 43]⟩, .string ⟨#[45, 45]⟩, .string ⟨#[60, 60]⟩, .string ⟨#[62, 62]⟩, .string ⟨#[62, 62, 62]⟩, .string ⟨#[38]⟩, .string ⟨#[124]⟩, .string ⟨#[94]⟩, .string ⟨#[33]⟩, .string ⟨#[126]⟩, .string ⟨#[38, 38]⟩, .string ⟨#[124, 124]⟩, .string ⟨#[63, 63]⟩, .string ⟨#[63]⟩, .string ⟨#[63, 46]⟩, .string ⟨#[58]⟩, .string ⟨#[61]⟩, .string ⟨#[43, 61]⟩, .string ⟨#[45, 61]⟩, .string ⟨#[42, 61]⟩, .string ⟨#[37, 61]⟩, .string ⟨#[42, 42, 61]⟩, .string ⟨#[60, 60, 61]⟩, .string ⟨#[62, 62, 61]⟩, .string ⟨#[62, 62, 62, 61]⟩, .string ⟨#[38, 61]⟩, .string ⟨#[124, 61]⟩, .string ⟨#[94, 61]⟩, .string ⟨#[38, 38, 61]⟩, .string ⟨#[124, 124, 61]⟩, .string ⟨#[63, 63, 61]⟩, .string ⟨#[61, 62]⟩, .string ⟨#[47]⟩, .string ⟨#[47, 61]⟩] 9)
  have hg1 := hb1.size
  generalize World.alloc w1 _ = w2 at *
  generalize w1.heap.size = g at *
  have HSG := Lib.hid hsg
  have HBB := Lib.hid hbb
  clear hsg hb1 hbb
  go_wp2_with fail
  go_loopw [4, 5] (fun s i wr => ∃ k : Nat, k ≤ len ∧ k ≤ 4 ∧ i = .int .i64 k ∧ PuRel w g wr k s) (fun _ i _ => 4 - (intOf i).toNat)
  case atStart => exact ⟨0, Nat.zero_le _, by omega, rfl, ⟨#[]⟩, rfl, ⟨(fun c h => by cases h), .inl ⟨rfl, rfl⟩, Nat.le_refl _⟩, HSG.out, hsz, hg1, HBB.out⟩
  case round =>
    clear HSG HBB hsz
    obtain ⟨k, hk, hk4, rfl, S, rfl, hst, hsg, hgl, hgw, hbel⟩ := hrel
    have HT := Lib.hid hst
    have HSG := Lib.hid hsg
    clear hst hsg
    by_cases hlt : k < len ∧ k < 4
    · obtain ⟨hlt, hlt4⟩ := hlt
      obtain ⟨b, off, rfl, hb, z, hz⟩ := HC.out k hlt
      rw [← hbel.cell (p := ⟨b, off + k, none⟩) hb] at hz
      have hr0 : 0 ≤ (IntKind.u64.wrap z).tmod 57 ∧ (IntKind.u64.wrap z).tmod 57 < 57 := by
        have e : IntKind.u64.wrap z = z % 18446744073709551616 := rfl
        rw [e, Int.tmod_eq_emod_of_nonneg (by omega)]
        omega
      obtain ⟨j, hj⟩ : ∃ j : Nat, (IntKind.u64.wrap z).tmod 57 = (j : Int) := ⟨((IntKind.u64.wrap z).tmod 57).toNat, by omega⟩
      rw [hj] at hr0
      have hj57 : j < 57 := by omega
      have hcell := HSG.out j hj57
      obtain ⟨I, hI⟩ : ∃ I : ByteArray, I = ⟨(sgAll[j]'hj57).toArray⟩ := ⟨_, rfl⟩
      rw [← hI] at hcell
      have HP := Lib.hid (HT.out.push j hj57 I hI)
      have hSb : S.size ≤ 16 := by have := HT.out.2.2; omega
      have hIb : I.size ≤ 4 := by
        have h1 := (sgAll_chars _ (List.getElem_mem hj57)).2.1
        rw [hI]
        exact h1
      have d4 : decide ((k : Int) < 4) = true := decide_eq_true (by omega)
      clear hI hr0 HC
      go_wp2_with fail
      go_roundw
      case rel => exact ⟨k + 1, hlt, by omega, by go_num, _, rfl, HP.out, HSG.out, hgl, hgw, hbel⟩
      case measure => simp [intOf]; omega
    · obtain ⟨hch, hfp, hsz4⟩ := HT.out
      have hend : (k = len ∨ (k = 4 ∧ 4 < len)) := by omega
      have hbig : S.size ≤ 16 := by omega
      have HCH := Lib.hid hch
      have HFP := Lib.hid hfp
      clear hch hfp hlt HT HC
      rcases Nat.eq_zero_or_pos S.size with hS0 | hS0
      · have e1 : S = ⟨#[]⟩ := ba_ext (by have h : S.data.toList = [] := List.length_eq_zero_iff.1 (by rw [ofl]; exact hS0)
                                          rw [h])
        subst e1
        clear hsz4 hbig hS0 HCH HFP
        rcases hend with rfl | ⟨rfl, hl4⟩
        · go_wp2_with fail
          go_ret
          exact ⟨rfl, hbel⟩
        · go_wp2_with fail
          go_ret
          exact ⟨rfl, hbel⟩
      · have hempty : S.toList.isEmpty = false := isEmpty_pos hS0
        have hfp2 : ∃ a ∈ sgAll, Lib.hasPrefix S.data.toList a = true := by
          rcases HFP.out with ⟨h, _⟩ | ⟨_, h⟩
          · omega
          · exact h
        have HFP2 := Lib.hid hfp2
        clear hfp2 HFP
        -- the test, in every way
        rcases hend with rfl | ⟨rfl, hl4⟩
        · go_upto_region 9 with fail
          go_cut [61] from 40 to 61 (fun v wx => v = .bool (decide (∃ h1 : 1 < S.size, S[0] = 47 ∧ (S[1] = 47 ∨ S[1] = 42))) ∧ wx = wr)
          case first =>
            by_cases h1 : 1 < S.size
            · by_cases h47 : S[0] = 47
              · by_cases h2 : S[1] = 47
                · have HV := Lib.hid (show decide (∃ h1 : 1 < S.size, S[0] = 47 ∧ (S[1] = 47 ∨ S[1] = 42)) = true from decide_eq_true ⟨h1, h47, .inl h2⟩)
                  have b1 : (((S[0].toNat : Nat) : Int) == 47) = true := eq_fact h47
                  have b2 : (((S[1].toNat : Nat) : Int) == 47) = true := eq_fact h2
                  clear h47 h2
                  go_wp2_with fail
                  go_meet
                  exact ⟨by rw [HV.out], rfl⟩
                · by_cases h3 : S[1] = 42
                  · have HV := Lib.hid (show decide (∃ h1 : 1 < S.size, S[0] = 47 ∧ (S[1] = 47 ∨ S[1] = 42)) = true from decide_eq_true ⟨h1, h47, .inr h3⟩)
                    have b1 : (((S[0].toNat : Nat) : Int) == 47) = true := eq_fact h47
                    have b2 : (((S[1].toNat : Nat) : Int) == 47) = false := ne_fact h2
                    have b3 : (((S[1].toNat : Nat) : Int) == 42) = true := eq_fact h3
                    clear h47 h2 h3
                    go_wp2_with fail
                    go_meet
                    exact ⟨by rw [HV.out], rfl⟩
                  · have HV := Lib.hid (show decide (∃ h1 : 1 < S.size, S[0] = 47 ∧ (S[1] = 47 ∨ S[1] = 42)) = false from decide_eq_false (by rintro ⟨_, _, h | h⟩; exact h2 h; exact h3 h))
                    have b1 : (((S[0].toNat : Nat) : Int) == 47) = true := eq_fact h47
                    have b2 : (((S[1].toNat : Nat) : Int) == 47) = false := ne_fact h2
                    have b3 : (((S[1].toNat : Nat) : Int) == 42) = false := ne_fact h3
                    clear h47 h2 h3
                    go_wp2_with fail
                    go_meet
                    exact ⟨by rw [HV.out], rfl⟩
              · have HV := Lib.hid (show decide (∃ h1 : 1 < S.size, S[0] = 47 ∧ (S[1] = 47 ∨ S[1] = 42)) = false from decide_eq_false (by rintro ⟨_, h, _⟩; exact h47 h))
                have b1 : (((S[0].toNat : Nat) : Int) == 47) = false := ne_fact h47
                clear h47
                go_wp2_with fail
                go_meet
                exact ⟨by rw [HV.out], rfl⟩
            · have HV := Lib.hid (show decide (∃ h1 : 1 < S.size, S[0] = 47 ∧ (S[1] = 47 ∨ S[1] = 42)) = false from decide_eq_false (by rintro ⟨h, _⟩; exact h1 h))
              go_wp2_with fail
              go_meet
              exact ⟨by rw [HV.out], rfl⟩
          case rest =>
            obtain ⟨rfl, rfl⟩ := hcut
            by_cases hway : ∃ h1 : 1 < S.size, S[0] = 47 ∧ (S[1] = 47 ∨ S[1] = 42)
            · rw [decide_eq_true hway]
              clear hway
              go_wp2_with fail
              go_ret
              exact ⟨rfl, hbel⟩
            · rw [decide_eq_false hway]
              have HO := Lib.hid (puncts_nxt HCH.out HFP2.out (two_pre hway (.inl rfl)) (two_pre hway (.inr rfl)))
              clear hway
              go_wp2_with fail
              go_loop [6, 7] (fun long i => ∃ (k2 : Nat) (L : ByteArray), k2 ≤ 57 ∧ i = .int .i64 k2 ∧ long = .string L ∧ LongAt S k2 L) (fun _ i => 57 - (intOf i).toNat)
              case atStart => exact ⟨0, _, by omega, rfl, rfl, LongAt.zero S⟩
              case round =>
                obtain ⟨k2, L, hk2, rfl, rfl, hlong⟩ := hrel
                have hLs := hlong.size.2
                have HL := Lib.hid hlong
                clear hlong
                by_cases hlt2 : k2 < 57
                · have hcell := HSG.out k2 hlt2
                  obtain ⟨A, hA⟩ : ∃ A : ByteArray, A = ⟨(sgAll[k2]'hlt2).toArray⟩ := ⟨_, rfl⟩
                  rw [← hA] at hcell
                  have HAA := Lib.hid hA
                  clear hA
                  by_cases hsA : A.size ≤ S.size
                  · by_cases hpA : Lib.hasPrefix S.data.toList A.data.toList = true
                    · have b1 : ((S.extract 0 A.size).toList == A.toList) = true := by rw [pre_extract S A]; exact hpA
                      by_cases hlA : L.size < A.size
                      · have HR := Lib.hid (HL.out.yes hlt2 HAA.out hpA hlA)
                        clear hpA
                        go_wp2_with fail
                        go_round
                        case rel => exact ⟨k2 + 1, _, hlt2, by go_num, rfl, HR.out⟩
                        case measure => simp [intOf]; omega
                      · have HR := Lib.hid (HL.out.no hlt2 HAA.out (.inr (by omega)))
                        clear hpA
                        go_wp2_with fail
                        go_round
                        case rel => exact ⟨k2 + 1, _, hlt2, by go_num, rfl, HR.out⟩
                        case measure => simp [intOf]; omega
                    · have hpA := Bool.eq_false_iff.2 hpA
                      have b1 : ((S.extract 0 A.size).toList == A.toList) = false := by rw [pre_extract S A]; exact hpA
                      have HR := Lib.hid (HL.out.no hlt2 HAA.out (.inl hpA))
                      clear hpA
                      go_wp2_with fail
                      go_round
                      case rel => exact ⟨k2 + 1, _, hlt2, by go_num, rfl, HR.out⟩
                      case measure => simp [intOf]; omega
                  · have HR := Lib.hid (HL.out.no hlt2 HAA.out (.inl (pre_long (by omega))))
                    go_wp2_with fail
                    go_round
                    case rel => exact ⟨k2 + 1, _, hlt2, by go_num, rfl, HR.out⟩
                    case measure => simp [intOf]; omega
                · obtain rfl : k2 = 57 := by omega
                  have hex : S.extract 0 (0 + mx S.data.toList sgAll 0) = L := by rw [Nat.zero_add]; exact HL.out.symm
                  obtain ⟨mz, hmz⟩ : ∃ mz : Int, mz = ((0 : Nat) : Int) + ((mx S.data.toList sgAll 0 : Nat) : Int) := ⟨_, rfl⟩
                  have HN := Lib.hid (fun W h => next_of S 0 5 0 (mx S.data.toList sgAll 0) W (by omega) (Nat.zero_le _) h HO.out 0 rfl L hex 0 mz rfl hmz)
                  clear hex hmz HL HSG
                  go_upto_region 19 with (go_at_call 14; refine (HN.out _ (HX.out.bel hbel)).mono ?_; rintro e w5 ⟨⟨vp, cap3, rfl⟩, hb5⟩)
                  have hk5 : TkAt (w5.alloc (.cells #[.int .i64 5, .string L, .int .i64 0, .int .i64 mz, .bool false] 24)) w5.heap.size ⟨5, L, 0, mz, false⟩ := heap_alloc_new _ _
                  have hb := (bel_next hbel hb5).alloc (bel_next hbel hb5).size (.cells #[.int .i64 5, .string L, .int .i64 0, .int .i64 mz, .bool false] 24)
                  generalize World.alloc w5 _ = w6 at *
                  generalize w5.heap.size = g6 at *
                  clear hb5
                  obtain ⟨d0, d1, d2, d3, d4, g0, g1, g2, g3, g4⟩ := TkAt.facts hk5
                  clear hk5
                  go_wp2_with (go_at_call 15; refine (lnum_any _ _).mono ?_; rintro e w' ⟨rfl, rfl⟩)
                  go_ret
                  exact ⟨rfl, hb⟩
        · go_upto_region 9 with fail
          go_cut [61] from 40 to 61 (fun v wx => v = .bool (decide (∃ h1 : 1 < S.size, S[0] = 47 ∧ (S[1] = 47 ∨ S[1] = 42))) ∧ wx = wr)
          case first =>
            by_cases h1 : 1 < S.size
            · by_cases h47 : S[0] = 47
              · by_cases h2 : S[1] = 47
                · have HV := Lib.hid (show decide (∃ h1 : 1 < S.size, S[0] = 47 ∧ (S[1] = 47 ∨ S[1] = 42)) = true from decide_eq_true ⟨h1, h47, .inl h2⟩)
                  have b1 : (((S[0].toNat : Nat) : Int) == 47) = true := eq_fact h47
                  have b2 : (((S[1].toNat : Nat) : Int) == 47) = true := eq_fact h2
                  clear h47 h2
                  go_wp2_with fail
                  go_meet
                  exact ⟨by rw [HV.out], rfl⟩
                · by_cases h3 : S[1] = 42
                  · have HV := Lib.hid (show decide (∃ h1 : 1 < S.size, S[0] = 47 ∧ (S[1] = 47 ∨ S[1] = 42)) = true from decide_eq_true ⟨h1, h47, .inr h3⟩)
                    have b1 : (((S[0].toNat : Nat) : Int) == 47) = true := eq_fact h47
                    have b2 : (((S[1].toNat : Nat) : Int) == 47) = false := ne_fact h2
                    have b3 : (((S[1].toNat : Nat) : Int) == 42) = true := eq_fact h3
                    clear h47 h2 h3
                    go_wp2_with fail
                    go_meet
                    exact ⟨by rw [HV.out], rfl⟩
                  · have HV := Lib.hid (show decide (∃ h1 : 1 < S.size, S[0] = 47 ∧ (S[1] = 47 ∨ S[1] = 42)) = false from decide_eq_false (by rintro ⟨_, _, h | h⟩; exact h2 h; exact h3 h))
                    have b1 : (((S[0].toNat : Nat) : Int) == 47) = true := eq_fact h47
                    have b2 : (((S[1].toNat : Nat) : Int) == 47) = false := ne_fact h2
                    have b3 : (((S[1].toNat : Nat) : Int) == 42) = false := ne_fact h3
                    clear h47 h2 h3
                    go_wp2_with fail
                    go_meet
                    exact ⟨by rw [HV.out], rfl⟩
              · have HV := Lib.hid (show decide (∃ h1 : 1 < S.size, S[0] = 47 ∧ (S[1] = 47 ∨ S[1] = 42)) = false from decide_eq_false (by rintro ⟨_, h, _⟩; exact h47 h))
                have b1 : (((S[0].toNat : Nat) : Int) == 47) = false := ne_fact h47
                clear h47
                go_wp2_with fail
                go_meet
                exact ⟨by rw [HV.out], rfl⟩
            · have HV := Lib.hid (show decide (∃ h1 : 1 < S.size, S[0] = 47 ∧ (S[1] = 47 ∨ S[1] = 42)) = false from decide_eq_false (by rintro ⟨h, _⟩; exact h1 h))
              go_wp2_with fail
              go_meet
              exact ⟨by rw [HV.out], rfl⟩
          case rest =>
            obtain ⟨rfl, rfl⟩ := hcut
            by_cases hway : ∃ h1 : 1 < S.size, S[0] = 47 ∧ (S[1] = 47 ∨ S[1] = 42)
            · rw [decide_eq_true hway]
              clear hway
              go_wp2_with fail
              go_ret
              exact ⟨rfl, hbel⟩
            · rw [decide_eq_false hway]
              have HO := Lib.hid (puncts_nxt HCH.out HFP2.out (two_pre hway (.inl rfl)) (two_pre hway (.inr rfl)))
              clear hway
              go_wp2_with fail
              go_loop [6, 7] (fun long i => ∃ (k2 : Nat) (L : ByteArray), k2 ≤ 57 ∧ i = .int .i64 k2 ∧ long = .string L ∧ LongAt S k2 L) (fun _ i => 57 - (intOf i).toNat)
              case atStart => exact ⟨0, _, by omega, rfl, rfl, LongAt.zero S⟩
              case round =>
                obtain ⟨k2, L, hk2, rfl, rfl, hlong⟩ := hrel
                have hLs := hlong.size.2
                have HL := Lib.hid hlong
                clear hlong
                by_cases hlt2 : k2 < 57
                · have hcell := HSG.out k2 hlt2
                  obtain ⟨A, hA⟩ : ∃ A : ByteArray, A = ⟨(sgAll[k2]'hlt2).toArray⟩ := ⟨_, rfl⟩
                  rw [← hA] at hcell
                  have HAA := Lib.hid hA
                  clear hA
                  by_cases hsA : A.size ≤ S.size
                  · by_cases hpA : Lib.hasPrefix S.data.toList A.data.toList = true
                    · have b1 : ((S.extract 0 A.size).toList == A.toList) = true := by rw [pre_extract S A]; exact hpA
                      by_cases hlA : L.size < A.size
                      · have HR := Lib.hid (HL.out.yes hlt2 HAA.out hpA hlA)
                        clear hpA
                        go_wp2_with fail
                        go_round
                        case rel => exact ⟨k2 + 1, _, hlt2, by go_num, rfl, HR.out⟩
                        case measure => simp [intOf]; omega
                      · have HR := Lib.hid (HL.out.no hlt2 HAA.out (.inr (by omega)))
                        clear hpA
                        go_wp2_with fail
                        go_round
                        case rel => exact ⟨k2 + 1, _, hlt2, by go_num, rfl, HR.out⟩
                        case measure => simp [intOf]; omega
                    · have hpA := Bool.eq_false_iff.2 hpA
                      have b1 : ((S.extract 0 A.size).toList == A.toList) = false := by rw [pre_extract S A]; exact hpA
                      have HR := Lib.hid (HL.out.no hlt2 HAA.out (.inl hpA))
                      clear hpA
                      go_wp2_with fail
                      go_round
                      case rel => exact ⟨k2 + 1, _, hlt2, by go_num, rfl, HR.out⟩
                      case measure => simp [intOf]; omega
                  · have HR := Lib.hid (HL.out.no hlt2 HAA.out (.inl (pre_long (by omega))))
                    go_wp2_with fail
                    go_round
                    case rel => exact ⟨k2 + 1, _, hlt2, by go_num, rfl, HR.out⟩
                    case measure => simp [intOf]; omega
                · obtain rfl : k2 = 57 := by omega
                  have hex : S.extract 0 (0 + mx S.data.toList sgAll 0) = L := by rw [Nat.zero_add]; exact HL.out.symm
                  obtain ⟨mz, hmz⟩ : ∃ mz : Int, mz = ((0 : Nat) : Int) + ((mx S.data.toList sgAll 0 : Nat) : Int) := ⟨_, rfl⟩
                  have HN := Lib.hid (fun W h => next_of S 0 5 0 (mx S.data.toList sgAll 0) W (by omega) (Nat.zero_le _) h HO.out 0 rfl L hex 0 mz rfl hmz)
                  clear hex hmz HL HSG
                  go_upto_region 19 with (go_at_call 14; refine (HN.out _ (HX.out.bel hbel)).mono ?_; rintro e w5 ⟨⟨vp, cap3, rfl⟩, hb5⟩)
                  have hk5 : TkAt (w5.alloc (.cells #[.int .i64 5, .string L, .int .i64 0, .int .i64 mz, .bool false] 24)) w5.heap.size ⟨5, L, 0, mz, false⟩ := heap_alloc_new _ _
                  have hb := (bel_next hbel hb5).alloc (bel_next hbel hb5).size (.cells #[.int .i64 5, .string L, .int .i64 0, .int .i64 mz, .bool false] 24)
                  generalize World.alloc w5 _ = w6 at *
                  generalize w5.heap.size = g6 at *
                  clear hb5
                  obtain ⟨d0, d1, d2, d3, d4, g0, g1, g2, g3, g4⟩ := TkAt.facts hk5
                  clear hk5
                  go_wp2_with (go_at_call 15; refine (lnum_any _ _).mono ?_; rintro e w' ⟨rfl, rfl⟩)
                  go_ret
                  exact ⟨rfl, hb⟩
end Go.Proofs.YtdkkfbakggbaeaaDoor
