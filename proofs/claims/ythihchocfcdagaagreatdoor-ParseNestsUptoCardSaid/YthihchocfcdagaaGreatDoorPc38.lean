/- Parts: Contracts of the law's of, is and ident. Condition: what a law leans on; the text is read. | Plain: a node that a law builds; a row of nodes newly laid. | What the laws' functions hold: a row of ints as an argument, a row of strings, a pick out of a row. No condition. -/
import Derived.Test.YthihchocfcdagaaGreatDoorPc33
import Derived.Test.YthihchocfcdagaaGreatDoorPn05
import Derived.StillTailTactics
namespace Go.Proofs.YthihchocfcdagaaGreatDoor
section
open Go.RowKit
theorem NdW.low {w:World} {L L' B:Nat} {n:Nd} {v:Value} (h:NdW w L B n v) (hL:L'≤L):NdW w L' B n v:=by
 obtain⟨b,cap,h1,h2⟩:=h
 exact⟨b,cap,h1,RowE.keeps.k hL (Nat.le_refl _) (fun _ _ _=>rfl) h2⟩
theorem NdV.low {w:World} {L L' B B':Nat} {n:Nd} {v:Value} (h:NdV w L B n v) (hL:L'≤L) (hB:B≤B'):NdV w L' B' n v:=by
 obtain⟨b,cap,h1,h2,h3⟩:=h
 exact⟨b,cap,h1,h2,RowP_keep hL hB (fun _ _ _=>rfl) h3⟩
end
section
open Go.RowKit
theorem NdV.kd {w:World} {L B:Nat} {n:Nd} {v:Value} (h:NdV w L B n v): ∃b cap,v= .agg #[.int .i64 n.kind,.string n.text,.slice b n.kids.length cap,.int .i64 n.from',.int .i64 n.till]∧n.kids.length≤cap∧RowP w L B n.kids b 0:=h
theorem nil_rowP (w:World) (L B:Nat) (a:Option Addr) (i:Nat):RowP w L B [] a i:=by rw [RowP];trivial
def RowA (w:World) (r B:Nat) (ks:List Nd) (a:Option Addr):Prop:= ∀w':World,(∀k,k<B→k≠r→w'.heap[k]? =w.heap[k]?)→RowP w' 0 B ks a 0
theorem RowA.row {w:World} {r B:Nat} {ks:List Nd} {a:Option Addr} (h:RowA w r B ks a):RowP w 0 B ks a 0:=h w fun _ _ _=>rfl
theorem RowA.bel {w w':World} {r B B':Nat} {ks:List Nd} {a:Option Addr} (h:RowA w r B ks a) (hb: ∀k,k<B→k≠r→w'.heap[k]? =w.heap[k]?) (hB:B≤B'):RowA w' r B' ks a:=
 fun w2 h2=>RowP_keep (Nat.le_refl _) hB (fun _ _ _=>rfl) (h w2 fun k hk hne=>(h2 k (by omega) hne).trans (hb k hk hne))
theorem RowA.nil (w:World) (r B:Nat) (a:Option Addr):RowA w r B [] a:=fun _ _=>nil_rowP _ _ _ _ _
theorem RowA.of {w:World} {r L B:Nat} {ks:List Nd} {a:Option Addr} (h:RowP w L B ks a 0) (hL:r<L):RowA w r B ks a:=
 fun w2 h2=>RowP_keep (Nat.zero_le _) (Nat.le_refl _) (fun k h1 hk=>h2 k hk (by omega)) h
theorem RowA.new {w W:World} {r:Nat} {T:TypeId} (ns:List Kd) (hn: ∀x ∈ ns,x.1.kids.length≤x.2.2∧RowA w r w.heap.size x.1.kids x.2.1) (hr:r≠w.heap.size)
  (hg:W.heap[w.heap.size]? =some (.cells (ns.flatMap cells5).toArray T (0,0))) (hk: ∀k,k<w.heap.size→k≠r→W.heap[k]? =w.heap[k]?):RowA W r (w.heap.size+1) (ns.map (·.1)) (some ⟨w.heap.size,0,none⟩):=by
 intro w' hw'
 have hg':w'.heap[w.heap.size]? =some (.cells (ns.flatMap cells5).toArray T (0,0)):=(hw' _ (Nat.lt_succ_self _) (Ne.symm hr)).trans hg
 refine RowP_of fun j hj=>⟨w.heap.size,0,rfl,?_⟩
 have hj':j<ns.length:=by simpa using hj
 have hcell: ∀i,i<5→w'.cell? ⟨w.heap.size,j*5+i,none⟩=(cells5 ns[j])[i]? :=fun i hi=>by
  rw [cell_of_row _ _ _ _ T (0,0) hg',List.getElem?_toArray]
  exact cells5_get ns j i hj' hi
 obtain⟨h1,h2⟩:=hn _ (List.getElem_mem hj')
 rw [List.getElem_map,NdC_eq,Nat.zero_add,Nat.zero_add]
 exact⟨ns[j].2.1,ns[j].2.2,Nat.zero_le _,Nat.lt_succ_self _,hcell 0 (by decide),hcell 1 (by decide),hcell 2 (by decide),hcell 3 (by decide),hcell 4 (by decide),h1,
  RowP_keep (Nat.le_refl _) (Nat.le_succ _) (fun _ _ _=>rfl) (h2 w' fun k hlt hne=>(hw' k (by omega) hne).trans (hk k hlt hne))⟩
structure WBox (w:World) (r:Nat) (n:Nd) (b:Option Addr) (cap:Nat):Prop where
 box:NdBoxV w r n.kind n.text (.slice b n.kids.length cap) n.from' n.till
 cap:n.kids.length≤cap
 row:RowA w r w.heap.size n.kids b
theorem WBox.bel {w w':World} {r:Nat} {n:Nd} {b:Option Addr} {cap:Nat} (h:WBox w r n b cap) (hb:Below w.heap.size w w'):WBox w' r n b cap:=
 ⟨h.box.bel hb,h.cap,h.row.bel (fun k hk _=>hb.block k hk) hb.size⟩
theorem WBox.v {w:World} {r:Nat} {n:Nd} {b:Option Addr} {cap:Nat} (h:WBox w r n b cap):NdV w 0 w.heap.size n (.agg #[.int .i64 n.kind,.string n.text,.slice b n.kids.length cap,.int .i64 n.from',.int .i64 n.till]):=⟨b,cap,rfl,h.cap,h.row.row⟩
theorem WBox.put {w W:World} {r:Nat} {ns:List Kd} {T:TypeId} (hr:r<w.heap.size) (hn: ∀x ∈ ns,x.1.kids.length≤x.2.2∧RowA w r w.heap.size x.1.kids x.2.1) {k:Int} {t:ByteArray} {m:Nat} (hm:ns.length=m)
  (hbx:NdBoxV W r k t (.slice (some ⟨w.heap.size,0,none⟩) m m) 0 0) (hg:W.heap[w.heap.size]? =some (.cells (ns.flatMap cells5).toArray T (0,0))) (hk: ∀i,i<w.heap.size→i≠r→W.heap[i]? =w.heap[i]?) (hs:W.heap.size=w.heap.size+1):
  WBox W r (.mk k t (ns.map (·.1)) 0 0) (some ⟨w.heap.size,0,none⟩) m:=by
 subst hm
 refine⟨?_,?_,?_⟩
 ·show NdBoxV _ r k t (.slice _ (ns.map (·.1)).length _) 0 0
  rw [List.length_map]
  exact hbx
 ·show(ns.map (·.1)).length≤_
  rw [List.length_map]
  exact Nat.le_refl _
 ·rw [hs]
  exact RowA.new ns hn (by omega) hg hk
structure WSt (w0:World) (r:Nat) (n:Nd) (W:World):Prop where
 ex: ∃b cap,WBox W r n b cap
 bel:Below w0.heap.size w0 W
 lo:w0.heap.size≤r
theorem WSt.next {w0 W W':World} {r:Nat} {n:Nd} (h:WSt w0 r n W) (hb:Below W.heap.size W W'):WSt w0 r n W':=by
 obtain⟨b,cap,hx⟩:=h.ex
 exact⟨⟨b,cap,hx.bel hb⟩,bel_next h.bel hb,h.lo⟩
theorem WSt.leaf {w0 w:World} (hb:Below w0.heap.size w0 w) (t:ByteArray):WSt w0 w.heap.size (.mk 1 t [] 0 0) (w.alloc (.cells #[.int .i64 1,.string t,.slice none 0 0,.int .i64 0,.int .i64 0] 28)):=
 ⟨⟨none,0,heap_alloc_new _ _,Nat.le_refl _,RowA.nil _ _ _ _⟩,hb.alloc hb.size _,hb.size⟩
theorem ba_size {S:ByteArray} {l:List UInt8} (h:S.data.toList=l):S.size=l.length:=by
 rw [←h]
 exact Array.length_toList.symm
end
section
open Go.RowKit
def StrS (g:Nat) (l:List (List UInt8)) (W:World):Prop:=g<W.heap.size∧∀a,(h:a<l.length)→W.cell? ⟨g,a,none⟩=some (.string ⟨l[a].toArray⟩)
theorem StrS.new (w:World) (l:List (List UInt8)) (T:TypeId):StrS w.heap.size l (w.alloc (.cells (l.map fun o=>Value.string ⟨o.toArray⟩).toArray T)):=by
 refine⟨by rw [World.size_alloc];exact Nat.lt_succ_self _,fun a h=> ?_⟩
 rw [cell_of_row _ _ _ _ T (0,0) (heap_alloc_new _ _),List.getElem?_toArray,List.getElem?_map,List.getElem?_eq_getElem h]
 rfl
theorem StrS.bel {g:Nat} {l:List (List UInt8)} {w w':World} (h:StrS g l w) (hb:Below w.heap.size w w'):StrS g l w':=
 ⟨Nat.lt_of_lt_of_le h.1 hb.size,fun a ha=>(World.cell?_of_block (hb.block g h.1)).trans (h.2 a ha)⟩
theorem StrS.lay {g r:Nat} {l:List (List UInt8)} {w:World} (h:StrS g l w) (hr:g≠r) (k:Int) (t:ByteArray) (v:Value) (f u:Int):StrS g l (lay5 w r k t v f u):=
 ⟨by rw [lay5_size];exact h.1,fun a ha=>(World.cell?_of_block (lay5_block _ _ _ _ _ _ _ _ hr)).trans (h.2 a ha)⟩
end
end Go.Proofs.YthihchocfcdagaaGreatDoor
