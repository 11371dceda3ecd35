/- Steps (Is Wn Str Stm). Conditions: as stated. -/
import Derived.Test.YtnahajcjpmbflaaGreatDoorPn33
import Derived.Test.YtnahajcjpmbflaaGreatDoorPs42
set_option maxHeartbeats 4000000
set_option maxRecDepth 100000
namespace Go.Proofs.YtnahajcjpmbflaaGreatDoor
section
open Go.RowKit
theorem NdW.low {w:World} {L L' B:Nat} {n:Nd} {v:Value} (h:NdW w L B n v) (hL:L'≤L):NdW w L' B n v:=by
 obtain⟨b,cap,h1,h2⟩:=h
 exact⟨b,cap,h1,RowE.keeps.k hL (Nat.le_refl _) (fun _ _ _=>rfl) h2⟩
theorem NdV.low {w:World} {L L' B B':Nat} {n:Nd} {v:Value} (h:NdV w L B n v) (hL:L'≤L) (hB:B≤B'):NdV w L' B' n v:=by
 obtain⟨b,cap,h1,h2,h3⟩:=h
 exact⟨b,cap,h1,h2,RowP_keep hL hB (fun _ _ _=>rfl) h3⟩
end
section
open Go.RowKit
theorem NdV.kd {w:World} {L B:Nat} {n:Nd} {v:Value} (h:NdV w L B n v): ∃b cap,v= .agg #[.int .i64 n.kind,.string n.text,.slice b n.kids.length cap,.int .i64 n.from',.int .i64 n.till]∧n.kids.length≤cap∧RowP w L B n.kids b 0:=h
theorem nil_rowP (w:World) (L B:Nat) (a:Option Addr) (i:Nat):RowP w L B [] a i:=by rw [RowP];trivial
def RowA (w:World) (r B:Nat) (ks:List Nd) (a:Option Addr):Prop:= ∀w':World,(∀k,k<B→k≠r→w'.heap[k]? =w.heap[k]?)→RowP w' 0 B ks a 0
theorem RowA.row {w:World} {r B:Nat} {ks:List Nd} {a:Option Addr} (h:RowA w r B ks a):RowP w 0 B ks a 0:=h w fun _ _ _=>rfl
theorem RowA.bel {w w':World} {r B B':Nat} {ks:List Nd} {a:Option Addr} (h:RowA w r B ks a) (hb: ∀k,k<B→k≠r→w'.heap[k]? =w.heap[k]?) (hB:B≤B'):RowA w' r B' ks a:=
 fun w2 h2=>RowP_keep (Nat.le_refl _) hB (fun _ _ _=>rfl) (h w2 fun k hk hne=>(h2 k (by omega) hne).trans (hb k hk hne))
theorem RowA.nil (w:World) (r B:Nat) (a:Option Addr):RowA w r B [] a:=fun _ _=>nil_rowP _ _ _ _ _
theorem RowA.of {w:World} {r L B:Nat} {ks:List Nd} {a:Option Addr} (h:RowP w L B ks a 0) (hL:r<L):RowA w r B ks a:=
 fun w2 h2=>RowP_keep (Nat.zero_le _) (Nat.le_refl _) (fun k h1 hk=>h2 k hk (by omega)) h
theorem RowA.new {w W:World} {r:Nat} {T:TypeId} (ns:List Kd) (hn: ∀x ∈ ns,x.1.kids.length≤x.2.2∧RowA w r w.heap.size x.1.kids x.2.1) (hr:r≠w.heap.size)
  (hg:W.heap[w.heap.size]? =some (.cells (ns.flatMap cells5).toArray T (0,0))) (hk: ∀k,k<w.heap.size→k≠r→W.heap[k]? =w.heap[k]?):RowA W r (w.heap.size+1) (ns.map (·.1)) (some ⟨w.heap.size,0,none⟩):=by
 intro w' hw'
 have hg':w'.heap[w.heap.size]? =some (.cells (ns.flatMap cells5).toArray T (0,0)):=(hw' _ (Nat.lt_succ_self _) (Ne.symm hr)).trans hg
 refine RowP_of fun j hj=>⟨w.heap.size,0,rfl,?_⟩
 have hj':j<ns.length:=by simpa using hj
 have hcell: ∀i,i<5→w'.cell? ⟨w.heap.size,j*5+i,none⟩=(cells5 ns[j])[i]? :=fun i hi=>by
  rw [cell_of_row _ _ _ _ T (0,0) hg',List.getElem?_toArray]
  exact cells5_get ns j i hj' hi
 obtain⟨h1,h2⟩:=hn _ (List.getElem_mem hj')
 rw [List.getElem_map,NdC_eq,Nat.zero_add,Nat.zero_add]
 exact⟨ns[j].2.1,ns[j].2.2,Nat.zero_le _,Nat.lt_succ_self _,hcell 0 (by decide),hcell 1 (by decide),hcell 2 (by decide),hcell 3 (by decide),hcell 4 (by decide),h1,
  RowP_keep (Nat.le_refl _) (Nat.le_succ _) (fun _ _ _=>rfl) (h2 w' fun k hlt hne=>(hw' k (by omega) hne).trans (hk k hlt hne))⟩
structure WBox (w:World) (r:Nat) (n:Nd) (b:Option Addr) (cap:Nat):Prop where
 box:NdBoxV w r n.kind n.text (.slice b n.kids.length cap) n.from' n.till
 cap:n.kids.length≤cap
 row:RowA w r w.heap.size n.kids b
theorem WBox.bel {w w':World} {r:Nat} {n:Nd} {b:Option Addr} {cap:Nat} (h:WBox w r n b cap) (hb:Below w.heap.size w w'):WBox w' r n b cap:=
 ⟨h.box.bel hb,h.cap,h.row.bel (fun k hk _=>hb.block k hk) hb.size⟩
theorem WBox.v {w:World} {r:Nat} {n:Nd} {b:Option Addr} {cap:Nat} (h:WBox w r n b cap):NdV w 0 w.heap.size n (.agg #[.int .i64 n.kind,.string n.text,.slice b n.kids.length cap,.int .i64 n.from',.int .i64 n.till]):=⟨b,cap,rfl,h.cap,h.row.row⟩
theorem WBox.put {w W:World} {r:Nat} {ns:List Kd} {T:TypeId} (hr:r<w.heap.size) (hn: ∀x ∈ ns,x.1.kids.length≤x.2.2∧RowA w r w.heap.size x.1.kids x.2.1) {k:Int} {t:ByteArray} {m:Nat} (hm:ns.length=m)
  (hbx:NdBoxV W r k t (.slice (some ⟨w.heap.size,0,none⟩) m m) 0 0) (hg:W.heap[w.heap.size]? =some (.cells (ns.flatMap cells5).toArray T (0,0))) (hk: ∀i,i<w.heap.size→i≠r→W.heap[i]? =w.heap[i]?) (hs:W.heap.size=w.heap.size+1):
  WBox W r (.mk k t (ns.map (·.1)) 0 0) (some ⟨w.heap.size,0,none⟩) m:=by
 subst hm
 refine⟨?_,?_,?_⟩
 ·show NdBoxV _ r k t (.slice _ (ns.map (·.1)).length _) 0 0
  rw [List.length_map]
  exact hbx
 ·show(ns.map (·.1)).length≤_
  rw [List.length_map]
  exact Nat.le_refl _
 ·rw [hs]
  exact RowA.new ns hn (by omega) hg hk
structure WSt (w0:World) (r:Nat) (n:Nd) (W:World):Prop where
 ex: ∃b cap,WBox W r n b cap
 bel:Below w0.heap.size w0 W
 lo:w0.heap.size≤r
theorem WSt.next {w0 W W':World} {r:Nat} {n:Nd} (h:WSt w0 r n W) (hb:Below W.heap.size W W'):WSt w0 r n W':=by
 obtain⟨b,cap,hx⟩:=h.ex
 exact⟨⟨b,cap,hx.bel hb⟩,bel_next h.bel hb,h.lo⟩
theorem WSt.leaf {w0 w:World} (hb:Below w0.heap.size w0 w) (t:ByteArray):WSt w0 w.heap.size (.mk 1 t [] 0 0) (w.alloc (.cells #[.int .i64 1,.string t,.slice none 0 0,.int .i64 0,.int .i64 0] 31)):=
 ⟨⟨none,0,heap_alloc_new _ _,Nat.le_refl _,RowA.nil _ _ _ _⟩,hb.alloc hb.size _,hb.size⟩
theorem ba_size {S:ByteArray} {l:List UInt8} (h:S.data.toList=l):S.size=l.length:=by
 rw [←h]
 exact Array.length_toList.symm
end
section
open Go.RowKit
def IntsArg (w:World) (ao:Option Addr) (len:Nat):Prop:= ∀j,j<len→∃b off,ao=some ⟨b,off,none⟩∧b<w.heap.size∧∃z:Int,w.cell? ⟨b,off+j,none⟩=some (.int .i64 z)
theorem pickN (i:Int) (n:Nat) (hn:0<n): ∃a:Nat,(IntKind.u64.wrap i).tmod n=(a:Int)∧a<n:=by
 have e:IntKind.u64.wrap i=i % 18446744073709551616:=rfl
 have h1:0≤(IntKind.u64.wrap i).tmod n:=by rw [e,Int.tmod_eq_emod_of_nonneg (by omega)];exact Int.emod_nonneg _ (by omega)
 have h2:(IntKind.u64.wrap i).tmod n<n:=by rw [e,Int.tmod_eq_emod_of_nonneg (by omega)];exact Int.emod_lt_of_pos _ (by omega)
 exact⟨((IntKind.u64.wrap i).tmod n).toNat,by omega,by omega⟩
def StrS (g:Nat) (l:List (List UInt8)) (W:World):Prop:=g<W.heap.size∧∀a,(h:a<l.length)→W.cell? ⟨g,a,none⟩=some (.string ⟨l[a].toArray⟩)
theorem StrS.new (w:World) (l:List (List UInt8)) (T:TypeId):StrS w.heap.size l (w.alloc (.cells (l.map fun o=>Value.string ⟨o.toArray⟩).toArray T)):=by
 refine⟨by rw [World.size_alloc];exact Nat.lt_succ_self _,fun a h=> ?_⟩
 rw [cell_of_row _ _ _ _ T (0,0) (heap_alloc_new _ _),List.getElem?_toArray,List.getElem?_map,List.getElem?_eq_getElem h]
 rfl
theorem StrS.bel {g:Nat} {l:List (List UInt8)} {w w':World} (h:StrS g l w) (hb:Below w.heap.size w w'):StrS g l w':=
 ⟨Nat.lt_of_lt_of_le h.1 hb.size,fun a ha=>(World.cell?_of_block (hb.block g h.1)).trans (h.2 a ha)⟩
theorem StrS.lay {g r:Nat} {l:List (List UInt8)} {w:World} (h:StrS g l w) (hr:g≠r) (k:Int) (t:ByteArray) (v:Value) (f u:Int):StrS g l (lay5 w r k t v f u):=
 ⟨by rw [lay5_size];exact h.1,fun a ha=>(World.cell?_of_block (lay5_block _ _ _ _ _ _ _ _ hr)).trans (h.2 a ha)⟩
theorem cell_new1 (w:World) (u:Value) (T:TypeId): ∀j x,([u]:List Value)[j]? =some x→(w.alloc (.cells #[u] T)).cell? ((⟨w.heap.size,0,none⟩:Addr).add j)=some x:=by
 intro j x h
 cases j with
 |zero=>
  show(w.alloc (.cells #[u] T)).cell? ⟨w.heap.size,0,none⟩=some x
  rw [cell_of_row _ _ 0 _ T (0,0) (heap_alloc_new _ _)]
  exact h
 |succ j=>simp at h
theorem push_bel2 {B:Nat} {a w w1:World} {o:Obj} {v:Value} {T:TypeId} {n m:Nat} {xs:List Value} (hb:Below B a w) (hB:B≤w.heap.size) (ho:w.ownsRow B T m v n xs) (hg:(w.alloc o).grownBy w1 v.ownBlock):Below B a w1:=by
 refine(hb.alloc hB o).grown hg ?_ ?_
 ·rw [World.size_alloc];omega
 ·intro k hk
  rcases ho.2 with ⟨rfl,_⟩|⟨g,cap,cur,rfl,h,_⟩
  ·cases hk
  ·cases hk;exact h
end
section
open Go.RowKit
theorem fld_nd2 (v0 v1 v2 v3 v4:Value) (W:World):(Instr.field 31 (.agg #[v0,v1,v2,v3,v4]) 2).run Tryz.prog W= .ok v2 W:=by kernel_rfl
attribute [local go_sem] fld_nd2
theorem deep_bareT {n:Nd} (h:ndDeep n≤8000):bareT n=bareNd n:=by
 unfold bareT
 rw [if_pos h]
theorem statements_any {s:ByteArray} {n:Nd} {q:Ps} (F:Nat) (hF:F≤1073741824) (hs:s.size≤1048576) (hE:programQ s false F= .ok n q) (hz:ndSize n≤4194304) (w:World) (hx:Lx w):
  Calls Tryz.prog 8 #[.string s] w fun e w'=> ∃b cap,e= .returned (.tuple #[.slice b (bareT n).kids.length cap,.bool true])∧(bareT n).kids.length≤cap∧RowP w' w.heap.size w'.heap.size (bareT n).kids b 0∧Below w.heap.size w w':=by
 have HE:=Lib.hid hE
 have HX:=Lib.hid hx
 clear hE hx
 go_enter Tryz.func8,Tryz.ntmps8
 go_wp2_with fail
 refine(Program_tieT false F hs hF w HX.out HE.out (by intro h;cases h)).mono ?_
 rintro e w2 ⟨⟨a,cap,sa,sc,rfl,hcap,hrow⟩,hb1⟩
 have hsz2:w.heap.size≤w2.heap.size:=hb1.size
 have hbx:NdBoxV (w2.alloc (.cells #[.int .i64 n.kind,.string n.text,.slice a n.kids.length cap,.int .i64 n.from',.int .i64 n.till] 31)) w2.heap.size n.kind n.text (.slice a n.kids.length cap) n.from' n.till:=box_new w2 n a cap
 have hal:=alloc_bel w2 (.cells #[.int .i64 n.kind,.string n.text,.slice a n.kids.length cap,.int .i64 n.from',.int .i64 n.till] 31)
 have hb3:=bel_next hb1 hal
 have HV:=Lib.hid (show NdV (w2.alloc (.cells #[.int .i64 n.kind,.string n.text,.slice a n.kids.length cap,.int .i64 n.from',.int .i64 n.till] 31)) 0 w2.heap.size n (.agg #[.int .i64 n.kind,.string n.text,.slice a n.kids.length cap,.int .i64 n.from',.int .i64 n.till]) from⟨a,cap,rfl,hcap,RowP_bel hrow hal⟩)
 have hsz:=hal.size
 go_upto_region 2 with fail
 generalize World.alloc w2 _=w3 at*
 have HB3:=Lib.hid hb3
 obtain⟨x0,x1,x2,x3,x4,y0,y1,y2,y3,y4⟩:=NdBoxV.facts hbx
 clear hb1 hb3 hal hrow HE HX hcap
 go_wp2_with (first|(go_at_call 15;refine(num_any _ _).mono ?_;rintro e w9 ⟨rfl,rfl⟩)|(go_at_call 16;refine(Bare_any n _ w3 0 w2.heap.size HV.out hsz hz).mono ?_;rintro e w4 ⟨u,rfl,hu,hb4⟩;have HB4:=Lib.hid (bel_next HB3.out hb4);have HR:=Lib.hid hu.v;obtain⟨b4,cap4,rfl,hc4,hr4⟩:=hu.v;replace HR:=Lib.hid hr4;have HC:=Lib.hid hc4;clear hu hb4 hr4 hc4 x0 x1 x2 x3 x4 y0 y1 y2 y3 y4;unfold ndCells at*))
 refine bodyPost_ret (results_tmp2 rfl _ _ _) rfl ?_
 exact⟨b4,cap4,rfl,HC.out,RowP_keep (show w.heap.size≤w3.heap.size by omega) (Nat.le_refl _) (fun _ _ _=>rfl) HR.out,HB4.out⟩
end
end Go.Proofs.YtnahajcjpmbflaaGreatDoor
