/- Parts: Contracts of the law's of, is and ident. Condition: what a law leans on; the text is read. | Plain: a node that a law builds; a row of nodes newly laid. | The contract of the reference's Decimal below 100. | Contracts of the law's ident and split. Conditions: at most 90 names; the operators' row lies in memory. -/
import Derived.Test.YtfnjjgmhjbhclaaGreatDoorPn27
import Derived.Test.YtfnjjgmhjbhclaaGreatDoorPn05
import Derived.Test.YtfnjjgmhjbhclaaGreatDoorPn32
import Derived.Test.YtfnjjgmhjbhclaaGreatDoorPn07
import Derived.Laws.AppendOwnNone
import Derived.Test.YtfnjjgmhjbhclaaGreatDoorPn29
import Derived.BigQuiet
import Derived.Deep.DrawnRows
namespace Go.Proofs.YtfnjjgmhjbhclaaGreatDoor
section
open Go.RowKit
theorem NdW.low {w : World} {L L' B : Nat} {n : Nd} {v : Value} (h : NdW w L B n v) (hL : L' ≤ L) : NdW w L' B n v := by
 obtain ⟨b, cap, h1, h2⟩ := h
 exact ⟨b, cap, h1, RowE.keeps.k hL (Nat.le_refl _) (fun _ _ _ => rfl) h2⟩
theorem NdV.low {w : World} {L L' B B' : Nat} {n : Nd} {v : Value} (h : NdV w L B n v) (hL : L' ≤ L) (hB : B ≤ B') : NdV w L' B' n v := by
 obtain ⟨b, cap, h1, h2, h3⟩ := h
 exact ⟨b, cap, h1, h2, RowP_keep hL hB (fun _ _ _ => rfl) h3⟩
theorem of_results {fn : Func} (h : fn.results = #[.cell 2 31, .tmp 3]) {tmps : Array Value} {w : World} {b : Nat} {k : Int} {t : ByteArray} {v : Value} {f u : Int} {z : Value}
  (h2 : tmps.getD 2 undef = .pointer (some ⟨b, 0, none⟩)) (h3 : tmps.getD 3 undef = z) (hb : NdBoxV w b k t v f u) :
  (results fn tmps).run Tryz.prog w = .ok (.tuple #[.agg #[.int .i64 k, .string t, v, .int .i64 f, .int .i64 u], z]) w := by
 have e2 : tmps[2]?.getD undef = .pointer (some ⟨b, 0, none⟩) := by simpa using h2
 have e3 : tmps[3]?.getD undef = z := by simpa using h3
 have r2 := run_loadVar_row (P := Tryz.prog) w b _ 31 _ _ _ hb Tryz.underlying31 rfl (by kernel_rfl)
 simp [results, h, e2, e3, asAddr, r2]
set_option maxRecDepth 100000 in
set_option maxHeartbeats 4000000 in
theorem of_any {s : ByteArray} {n : Nd} {q : Ps} (F : Nat) (hF : F ≤ 1073741824) (hs : s.size ≤ 1048576) (hE : exprQ s false F = .ok n q) (hz : ndSize n ≤ 4194304) (w : World) (hx : Lx w) :
  Calls Tryz.prog 17 #[.string s] w fun e w' => ∃ u, e = .returned (.tuple #[u, .bool true]) ∧ NdW w' w.heap.size w'.heap.size (bareT n) u ∧ Below w.heap.size w w' := by
 have HE := Lib.hid hE
 have HX := Lib.hid hx
 clear hE hx
 have hba := alloc_bel w (.cells #[.int .i64 0, .string ⟨#[]⟩, .slice none 0 0, .int .i64 0, .int .i64 0] 31)
 have hbq : NdBoxV (w.alloc (.cells #[.int .i64 0, .string ⟨#[]⟩, .slice none 0 0, .int .i64 0, .int .i64 0] 31)) w.heap.size 0 ⟨#[]⟩ (.slice none 0 0) 0 0 := heap_alloc_new _ _
 go_enter Tryz.func17, Tryz.ntmps17
 go_upto_region 1 with fail
 generalize World.alloc w _ = w1 at *
 have HB := Lib.hid hba
 have HQ := Lib.hid hbq
 clear hba hbq
 go_upto_region 2 with (go_at_call 15; refine (Expr_tieT false F hs hF _ (HX.out.bel HB.out) HE.out (by intro h; cases h)).mono ?_; rintro e w2 ⟨⟨a, cap, rfl, hcap, hrow⟩, hb1⟩)
 have hsz2 : w1.heap.size ≤ w2.heap.size := hb1.size
 have hb2 := bel_next HB.out hb1
 have hbx : NdBoxV (w2.alloc (.cells #[.int .i64 n.kind, .string n.text, .slice a n.kids.length cap, .int .i64 n.from', .int .i64 n.till] 31)) w2.heap.size n.kind n.text (.slice a n.kids.length cap) n.from' n.till := box_new w2 n a cap
 have hal := alloc_bel w2 (.cells #[.int .i64 n.kind, .string n.text, .slice a n.kids.length cap, .int .i64 n.from', .int .i64 n.till] 31)
 have hb3 := bel_next hb2 hal
 have hq3 := (HQ.out.bel hb1).bel hal
 have HV := Lib.hid (show NdV (w2.alloc (.cells #[.int .i64 n.kind, .string n.text, .slice a n.kids.length cap, .int .i64 n.from', .int .i64 n.till] 31)) 0 w2.heap.size n (.agg #[.int .i64 n.kind, .string n.text, .slice a n.kids.length cap, .int .i64 n.from', .int .i64 n.till]) from ⟨a, cap, rfl, hcap, RowP_bel hrow hal⟩)
 have hsz := hal.size
 have hlt : w.heap.size < w1.heap.size := HQ.out.lt
 generalize World.alloc w2 _ = w3 at *
 have HB3 := Lib.hid hb3
 have HQ3 := Lib.hid hq3
 obtain ⟨x0, x1, x2, x3, x4, y0, y1, y2, y3, y4⟩ := NdBoxV.facts hbx
 clear hb1 hb2 hb3 hal hq3 hrow HQ HB HE HX hcap
 go_wp2_with (first | (go_at_call 16; refine (num_any _ _).mono ?_; rintro e w9 ⟨rfl, rfl⟩) | (go_at_call 27; refine (Bare_any n _ w3 0 w2.heap.size HV.out hsz hz).mono ?_; rintro e w4 ⟨u, rfl, hu, hb4⟩; have HB4 := Lib.hid (bel_next HB3.out hb4); have hq4 := HQ3.out.bel hb4; have HU := Lib.hid hu; have HQ4 := Lib.hid hq4; obtain ⟨b4, cap4, rfl, _⟩ := hu; clear hb4 x0 x1 x2 x3 x4 y0 y1 y2 y3 y4; unfold ndCells at *; obtain ⟨x0, x1, x2, x3, x4, y0, y1, y2, y3, y4⟩ := NdBoxV.facts hq4; have hql := hq4.lt; clear hq4))
 refine bodyPost_ret (of_results rfl (b := w.heap.size) rfl rfl HQ4.out.lay) rfl ?_
 obtain ⟨b5, cap5, e5, hr5⟩ := HU.out
 exact ⟨_, rfl, ⟨b5, cap5, e5, RowE.keeps.k (show w.heap.size ≤ w3.heap.size by omega) (Nat.le_of_eq (by simp [World.setCell])) (fun k h1 _ => lay5_block _ _ _ _ _ _ _ _ (by omega)) hr5⟩, lay5_bel HB4.out (Nat.le_refl _) _ _ _ _ _⟩
set_option maxRecDepth 100000 in
set_option maxHeartbeats 4000000 in
theorem same_is {s : ByteArray} {n : Nd} {q : Ps} (F : Nat) (hF : F ≤ 1073741824) (hs : s.size ≤ 1048576) (hE : exprQ s false F = .ok n q) (hz : ndSize n ≤ 4194304) (hz2 : ndSize (bareT n) ≤ 4194304) (want : Nd) (vw : Value) (L B : Nat) (w : World) (hw : NdV w L B want vw) (hB : B ≤ w.heap.size) (hx : Lx w) :
  Calls Tryz.prog 11 #[.string s, vw] w fun e w' => e = .returned (.bool (sameNd (bareT n) want)) ∧ Below w.heap.size w w' := by
 obtain ⟨b, cap, rfl, hcap, hrow⟩ := hw
 unfold ndCells
 have hba := alloc_bel w (.cells #[.int .i64 want.kind, .string want.text, .slice b want.kids.length cap, .int .i64 want.from', .int .i64 want.till] 31)
 have hbq : NdBoxV (w.alloc (.cells #[.int .i64 want.kind, .string want.text, .slice b want.kids.length cap, .int .i64 want.from', .int .i64 want.till] 31)) w.heap.size want.kind want.text (.slice b want.kids.length cap) want.from' want.till := box_new w want b cap
 have HO := Lib.hid fun (W : World) (h : Lx W) => of_any F hF hs hE hz W h
 have HR := Lib.hid hrow
 have HX := Lib.hid hx
 clear hE hx hrow
 go_enter Tryz.func11, Tryz.ntmps11
 go_upto_region 1 with fail
 generalize World.alloc w _ = w1 at *
 have HB := Lib.hid hba
 have HQ := Lib.hid hbq
 clear hba hbq
 go_upto_region 2 with (go_at_call 17; refine (HO.out _ (HX.out.bel HB.out)).mono ?_; rintro e w2 ⟨u, rfl, hu, hb1⟩; have HU := Lib.hid hu; obtain ⟨b4, cap4, rfl, _⟩ := hu; unfold ndCells at *)
 have hal := alloc_bel w2 (.cells #[.int .i64 (bareT n).kind, .string (bareT n).text, .slice b4 (bareT n).kids.length cap4, .int .i64 (bareT n).from', .int .i64 (bareT n).till] 31)
 have hbx : NdBoxV (w2.alloc (.cells #[.int .i64 (bareT n).kind, .string (bareT n).text, .slice b4 (bareT n).kids.length cap4, .int .i64 (bareT n).from', .int .i64 (bareT n).till] 31)) w2.heap.size (bareT n).kind (bareT n).text (.slice b4 (bareT n).kids.length cap4) (bareT n).from' (bareT n).till := box_new w2 (bareT n) b4 cap4
 have hb3 := bel_next (bel_next HB.out hb1) hal
 have hq3 := (HQ.out.bel hb1).bel hal
 have hsz0 := HB.out.size
 have hsz1 := hb1.size
 have hsz := hal.size
 have HS := Lib.hid (same_any (bareT n) want _ _ _ 0 w2.heap.size ((NdV_bel HU.out.v hal).low (Nat.zero_le _) (Nat.le_refl _)) ((show NdV _ L B want _ from ⟨b, cap, rfl, hcap, RowP_bel HR.out (hb3.mono hB)⟩).low (Nat.zero_le _) (show B ≤ w2.heap.size by omega)) hsz hz2)
 unfold ndCells at *
 generalize World.alloc w2 _ = w3 at *
 have HB3 := Lib.hid hb3
 obtain ⟨x0, x1, x2, x3, x4, y0, y1, y2, y3, y4⟩ := NdBoxV.facts hbx
 obtain ⟨p0, p1, p2, p3, p4, r0, r1, r2, r3, r4⟩ := NdBoxV.facts hq3
 clear hb1 hb3 hal hq3 hbx HQ HB HX HO HR HU
 go_wp2_with (go_at_call 18; refine HS.out.mono ?_; rintro e w4 ⟨rfl, hb4⟩)
 go_ret
 exact ⟨rfl, bel_next HB3.out hb4⟩
end
section
open Go.RowKit
theorem NdV.kd {w : World} {L B : Nat} {n : Nd} {v : Value} (h : NdV w L B n v) : ∃ b cap, v = .agg #[.int .i64 n.kind, .string n.text, .slice b n.kids.length cap, .int .i64 n.from', .int .i64 n.till] ∧ n.kids.length ≤ cap ∧ RowP w L B n.kids b 0 := h
theorem nil_rowP (w : World) (L B : Nat) (a : Option Addr) (i : Nat) : RowP w L B [] a i := by rw [RowP]; trivial
def RowA (w : World) (r B : Nat) (ks : List Nd) (a : Option Addr) : Prop := ∀ w' : World, (∀ k, k < B → k ≠ r → w'.heap[k]? = w.heap[k]?) → RowP w' 0 B ks a 0
theorem RowA.row {w : World} {r B : Nat} {ks : List Nd} {a : Option Addr} (h : RowA w r B ks a) : RowP w 0 B ks a 0 := h w fun _ _ _ => rfl
theorem RowA.bel {w w' : World} {r B B' : Nat} {ks : List Nd} {a : Option Addr} (h : RowA w r B ks a) (hb : ∀ k, k < B → k ≠ r → w'.heap[k]? = w.heap[k]?) (hB : B ≤ B') : RowA w' r B' ks a :=
 fun w2 h2 => RowP_keep (Nat.le_refl _) hB (fun _ _ _ => rfl) (h w2 fun k hk hne => (h2 k (by omega) hne).trans (hb k hk hne))
theorem RowA.nil (w : World) (r B : Nat) (a : Option Addr) : RowA w r B [] a := fun _ _ => nil_rowP _ _ _ _ _
theorem RowA.of {w : World} {r L B : Nat} {ks : List Nd} {a : Option Addr} (h : RowP w L B ks a 0) (hL : r < L) : RowA w r B ks a :=
 fun w2 h2 => RowP_keep (Nat.zero_le _) (Nat.le_refl _) (fun k h1 hk => h2 k hk (by omega)) h
theorem RowA.new {w W : World} {r : Nat} {T : TypeId} (ns : List Kd) (hn : ∀ x ∈ ns, x.1.kids.length ≤ x.2.2 ∧ RowA w r w.heap.size x.1.kids x.2.1) (hr : r ≠ w.heap.size)
  (hg : W.heap[w.heap.size]? = some (.cells (ns.flatMap cells5).toArray T (0, 0))) (hk : ∀ k, k < w.heap.size → k ≠ r → W.heap[k]? = w.heap[k]?) : RowA W r (w.heap.size + 1) (ns.map (·.1)) (some ⟨w.heap.size, 0, none⟩) := by
 intro w' hw'
 have hg' : w'.heap[w.heap.size]? = some (.cells (ns.flatMap cells5).toArray T (0, 0)) := (hw' _ (Nat.lt_succ_self _) (Ne.symm hr)).trans hg
 refine RowP_of fun j hj => ⟨w.heap.size, 0, rfl, ?_⟩
 have hj' : j < ns.length := by simpa using hj
 have hcell : ∀ i, i < 5 → w'.cell? ⟨w.heap.size, j * 5 + i, none⟩ = (cells5 ns[j])[i]? := fun i hi => by
  rw [cell_of_row _ _ _ _ T (0, 0) hg', List.getElem?_toArray]
  exact cells5_get ns j i hj' hi
 obtain ⟨h1, h2⟩ := hn _ (List.getElem_mem hj')
 rw [List.getElem_map, NdC_eq, Nat.zero_add, Nat.zero_add]
 exact ⟨ns[j].2.1, ns[j].2.2, Nat.zero_le _, Nat.lt_succ_self _, hcell 0 (by decide), hcell 1 (by decide), hcell 2 (by decide), hcell 3 (by decide), hcell 4 (by decide), h1,
  RowP_keep (Nat.le_refl _) (Nat.le_succ _) (fun _ _ _ => rfl) (h2 w' fun k hlt hne => (hw' k (by omega) hne).trans (hk k hlt hne))⟩
structure WBox (w : World) (r : Nat) (n : Nd) (b : Option Addr) (cap : Nat) : Prop where
 box : NdBoxV w r n.kind n.text (.slice b n.kids.length cap) n.from' n.till
 cap : n.kids.length ≤ cap
 row : RowA w r w.heap.size n.kids b
theorem WBox.bel {w w' : World} {r : Nat} {n : Nd} {b : Option Addr} {cap : Nat} (h : WBox w r n b cap) (hb : Below w.heap.size w w') : WBox w' r n b cap :=
 ⟨h.box.bel hb, h.cap, h.row.bel (fun k hk _ => hb.block k hk) hb.size⟩
theorem WBox.v {w : World} {r : Nat} {n : Nd} {b : Option Addr} {cap : Nat} (h : WBox w r n b cap) : NdV w 0 w.heap.size n (.agg #[.int .i64 n.kind, .string n.text, .slice b n.kids.length cap, .int .i64 n.from', .int .i64 n.till]) := ⟨b, cap, rfl, h.cap, h.row.row⟩
theorem WBox.put {w W : World} {r : Nat} {ns : List Kd} {T : TypeId} (hr : r < w.heap.size) (hn : ∀ x ∈ ns, x.1.kids.length ≤ x.2.2 ∧ RowA w r w.heap.size x.1.kids x.2.1) {k : Int} {t : ByteArray} {m : Nat} (hm : ns.length = m)
  (hbx : NdBoxV W r k t (.slice (some ⟨w.heap.size, 0, none⟩) m m) 0 0) (hg : W.heap[w.heap.size]? = some (.cells (ns.flatMap cells5).toArray T (0, 0))) (hk : ∀ i, i < w.heap.size → i ≠ r → W.heap[i]? = w.heap[i]?) (hs : W.heap.size = w.heap.size + 1) :
  WBox W r (.mk k t (ns.map (·.1)) 0 0) (some ⟨w.heap.size, 0, none⟩) m := by
 subst hm
 refine ⟨?_, ?_, ?_⟩
 ·show NdBoxV _ r k t (.slice _ (ns.map (·.1)).length _) 0 0
  rw [List.length_map]
  exact hbx
 ·show (ns.map (·.1)).length ≤ _
  rw [List.length_map]
  exact Nat.le_refl _
 ·rw [hs]
  exact RowA.new ns hn (by omega) hg hk
theorem WBox.over2 {w : World} {r : Nat} {n0 : Nd} {b0 : Option Addr} {c0 : Nat} (h : WBox w r n0 b0 c0) {ns : List Kd} {T : TypeId} (hn : ∀ x ∈ ns, x.1.kids.length ≤ x.2.2 ∧ RowA w r w.heap.size x.1.kids x.2.1)
  (k : Int) (t : ByteArray) {m : Nat} (hm : ns.length = m) : WBox ((lay5 w r k t (.slice (some ⟨w.heap.size, 0, none⟩) m m) 0 0).alloc (.cells (ns.flatMap cells5).toArray T)) r (.mk k t (ns.map (·.1)) 0 0) (some ⟨w.heap.size, 0, none⟩) m := by
 have hlt := h.box.lt
 have hsz : (lay5 w r k t (.slice (some ⟨w.heap.size, 0, none⟩) m m) 0 0).heap.size = w.heap.size := lay5_size _ _ _ _ _ _ _
 have hnew := heap_alloc_new (lay5 w r k t (.slice (some ⟨w.heap.size, 0, none⟩) m m) 0 0) (.cells (ns.flatMap cells5).toArray T)
 rw [hsz] at hnew
 exact WBox.put (T := T) hlt hn hm ((h.box.lay).bel (alloc_bel _ _)) hnew (fun i h1 h2 => (Below.heap_alloc _ _ _ (by rw [hsz]; exact h1)).trans (lay5_block _ _ _ _ _ _ _ _ h2)) (by rw [World.size_alloc, hsz])
structure WSt (w0 : World) (r : Nat) (n : Nd) (W : World) : Prop where
 ex : ∃ b cap, WBox W r n b cap
 bel : Below w0.heap.size w0 W
 lo : w0.heap.size ≤ r
theorem WSt.next {w0 W W' : World} {r : Nat} {n : Nd} (h : WSt w0 r n W) (hb : Below W.heap.size W W') : WSt w0 r n W' := by
 obtain ⟨b, cap, hx⟩ := h.ex
 exact ⟨⟨b, cap, hx.bel hb⟩, bel_next h.bel hb, h.lo⟩
theorem WSt.over2 {w0 w : World} {r : Nat} {n0 : Nd} {b0 : Option Addr} {c0 : Nat} (h : WSt w0 r n0 w) (hb : WBox w r n0 b0 c0) {ns : List Kd} {T : TypeId} (hn : ∀ x ∈ ns, x.1.kids.length ≤ x.2.2 ∧ RowA w r w.heap.size x.1.kids x.2.1)
  (k : Int) (t : ByteArray) {m : Nat} (hm : ns.length = m) : WSt w0 r (.mk k t (ns.map (·.1)) 0 0) ((lay5 w r k t (.slice (some ⟨w.heap.size, 0, none⟩) m m) 0 0).alloc (.cells (ns.flatMap cells5).toArray T)) :=
 ⟨⟨_, _, WBox.over2 hb hn k t hm⟩, (lay5_bel h.bel h.lo _ _ _ _ _).alloc (by rw [lay5_size]; exact h.bel.size) _, h.lo⟩
theorem lay5_alloc {w : World} {r : Nat} (h : r < w.heap.size) (o : Obj) (k : Int) (t : ByteArray) (v : Value) (f u : Int) : lay5 (w.alloc o) r k t v f u = (lay5 w r k t v f u).alloc o := by
 unfold lay5
 rw [World.setCell_alloc_past _ _ _ _ h, World.setCell_alloc_past _ _ _ _ (by simpa using h), World.setCell_alloc_past _ _ _ _ (by simpa using h), World.setCell_alloc_past _ _ _ _ (by simpa using h), World.setCell_alloc_past _ _ _ _ (by simpa using h)]
theorem WSt.over3 {w0 w : World} {r : Nat} {n0 : Nd} {b0 : Option Addr} {c0 : Nat} (o : Obj) (h : WSt w0 r n0 w) (hb : WBox w r n0 b0 c0) {ns : List Kd} {T : TypeId} (hn : ∀ x ∈ ns, x.1.kids.length ≤ x.2.2 ∧ RowA (w.alloc o) r (w.alloc o).heap.size x.1.kids x.2.1)
  (k : Int) (t : ByteArray) {m : Nat} (hm : ns.length = m) : WSt w0 r (.mk k t (ns.map (·.1)) 0 0) (((lay5 w r k t (.slice (some ⟨w.heap.size + 1, 0, none⟩) m m) 0 0).alloc o).alloc (.cells (ns.flatMap cells5).toArray T)) := by
 have h2 := WSt.over2 (T := T) (h.next (alloc_bel w o)) (hb.bel (alloc_bel w o)) hn k t hm
 rw [World.size_alloc, lay5_alloc hb.box.lt] at h2
 exact h2
theorem WSt.leaf {w0 w : World} (hb : Below w0.heap.size w0 w) (t : ByteArray) : WSt w0 w.heap.size (.mk 1 t [] 0 0) (w.alloc (.cells #[.int .i64 1, .string t, .slice none 0 0, .int .i64 0, .int .i64 0] 31)) :=
 ⟨⟨none, 0, heap_alloc_new _ _, Nat.le_refl _, RowA.nil _ _ _ _⟩, hb.alloc hb.size _, hb.size⟩
theorem ba_size {S : ByteArray} {l : List UInt8} (h : S.data.toList = l) : S.size = l.length := by
 rw [← h]
 exact Array.length_toList.symm
theorem bare_size (m : Nd) : ndSize (bareNd m) ≤ ndSize m := by
 induction m using Nd.ind with
 | h m ih =>
  rw [bareNd_eq]
  split
  ·cases hk : m.kids with
   | nil => rw [bareFst, Nd.zero, ndSize, ndSizes, ndSize_eq]; omega
   | cons k ks =>
    rw [bareFst]
    have h1 := ih k (by rw [hk]; exact .head _)
    have h2 := ndSizes_mem (show k ∈ m.kids by rw [hk]; exact .head _)
    rw [ndSize_eq m]
    omega
  ·rw [ndSize, ndSize_eq m]
   have key : ∀ l : List Nd, (∀ x ∈ l, ndSize (bareNd x) ≤ ndSize x) → ndSizes (l.map bareNd) ≤ ndSizes l := by
    intro l
    induction l with
    | nil => intro _; exact Nat.le_refl _
    | cons x l ihl =>
     intro h
     rw [List.map_cons, ndSizes, ndSizes]
     have h1 := h x (.head _)
     have h2 := ihl fun y hy => h y (.tail _ hy)
     omega
   have := key m.kids ih
   omega
theorem bareT_of {n : Nd} (h : ndSize n ≤ 8000) : bareT n = bareNd n := by
 unfold bareT
 rw [if_pos (Nat.le_trans (deep_le n) h)]
end
section
open Go.RowKit
end
section
open Go.RowKit
set_option maxRecDepth 100000 in
set_option maxHeartbeats 4000000 in
theorem ident_any (t : ByteArray) (w : World) : Calls Tryz.prog 13 #[.string t] w fun e w' => e = .returned (.agg #[.int .i64 1, .string t, .slice none 0 0, .int .i64 0, .int .i64 0]) ∧ Below w.heap.size w w' := by
 go_enter Tryz.func13, Tryz.ntmps13
 go_wp2_with fail
 exact bodyPost_ret (results_nd rfl _ _ w.heap.size rfl (heap_alloc_new _ _)) rfl ⟨rfl, alloc_bel _ _⟩
end
end Go.Proofs.YtfnjjgmhjbhclaaGreatDoor
