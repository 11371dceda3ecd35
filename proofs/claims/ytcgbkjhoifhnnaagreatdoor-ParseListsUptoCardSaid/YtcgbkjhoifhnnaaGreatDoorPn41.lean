/- Steps (Is Wn Idn Str). Conditions: as stated. -/
import Derived.Test.YtcgbkjhoifhnnaaGreatDoorPn36
import Derived.Test.YtcgbkjhoifhnnaaGreatDoorPn46
set_option maxHeartbeats 4000000
set_option maxRecDepth 100000
namespace Go.Proofs.YtcgbkjhoifhnnaaGreatDoor
section
open Go.RowKit
theorem NdW.low {w:World} {L L' B:Nat} {n:Nd} {v:Value} (h:NdW w L B n v) (hL:L'≤L):NdW w L' B n v:=by
 obtain⟨b,cap,h1,h2⟩:=h
 exact⟨b,cap,h1,RowE.keeps.k hL (Nat.le_refl _) (fun _ _ _=>rfl) h2⟩
theorem NdV.low {w:World} {L L' B B':Nat} {n:Nd} {v:Value} (h:NdV w L B n v) (hL:L'≤L) (hB:B≤B'):NdV w L' B' n v:=by
 obtain⟨b,cap,h1,h2,h3⟩:=h
 exact⟨b,cap,h1,h2,ae6 hL hB (fun _ _ _=>rfl) h3⟩
theorem bc5 {fn:Func} (h:fn.results= #[.cell 2 26,.tmp 3]) {tmps:Array Value} {w:World} {b:Nat} {k:Int} {t:ByteArray} {v:Value} {f u:Int} {z:Value}
  (h2:tmps.getD 2 undef= .pointer (some ⟨b,0,none⟩)) (h3:tmps.getD 3 undef=z) (hb:aa4 w b k t v f u):
  (results fn tmps).run Tryz.prog w= .ok (.tuple #[.agg #[.int .i64 k,.string t,v,.int .i64 f,.int .i64 u],z]) w:=by
 have e2:tmps[2]?.getD undef= .pointer (some ⟨b,0,none⟩):=by simpa using h2
 have e3:tmps[3]?.getD undef=z:=by simpa using h3
 have r2:=run_loadVar_row (P:=Tryz.prog) w b _ 26 _ _ _ hb Tryz.underlying26 rfl (by kernel_rfl)
 simp [results,h,e2,e3,asAddr,r2]
theorem bG9 {s:ByteArray} {n:Nd} {q:Ps} (F:Nat) (hF:F≤1073741824) (hs:s.size≤1048576) (hE:aA6 s false F= .ok n q) (hz:aa1 n≤4194304) (w:World) (hx:Lx w):
  Calls Tryz.prog 14 #[.string s] w fun e w'=> ∃u,e= .returned (.tuple #[u,.bool true])∧NdW w' w.heap.size w'.heap.size (ai3 n) u∧Below w.heap.size w w':=by
 have HE:=hJ hE
 have HX:=hJ hx
 clear hE hx
 have hba:=ad3 w (.cells #[.int .i64 0,.string ⟨#[]⟩,.slice none 0 0,.int .i64 0,.int .i64 0] 26)
 have hbq:aa4 (w.alloc (.cells #[.int .i64 0,.string ⟨#[]⟩,.slice none 0 0,.int .i64 0,.int .i64 0] 26)) w.heap.size 0 ⟨#[]⟩ (.slice none 0 0) 0 0:=heap_alloc_new _ _
 go_enter Tryz.func14,Tryz.ntmps14
 go_upto_region 1 with fail
 generalize World.alloc w _=w1 at*
 have HB:=hJ hba
 have HQ:=hJ hbq
 clear hba hbq
 go_upto_region 2 with (go_at_call 12;refine(aM0 false F hs hF _ (HX.out.bel HB.out) HE.out (by intro h;cases h)).mono ?_;rintro e w2 ⟨⟨a,cap,rfl,hcap,hrow⟩,hb1⟩)
 have hsz2:w1.heap.size≤w2.heap.size:=hb1.size
 have hb2:=aa7 HB.out hb1
 have hbx:aa4 (w2.alloc (.cells #[.int .i64 n.kind,.string n.text,.slice a n.kids.length cap,.int .i64 n.from',.int .i64 n.till] 26)) w2.heap.size n.kind n.text (.slice a n.kids.length cap) n.from' n.till:=aC5 w2 n a cap
 have hal:=ad3 w2 (.cells #[.int .i64 n.kind,.string n.text,.slice a n.kids.length cap,.int .i64 n.from',.int .i64 n.till] 26)
 have hb3:=aa7 hb2 hal
 have hq3:=(HQ.out.bel hb1).bel hal
 have HV:=hJ (show NdV (w2.alloc (.cells #[.int .i64 n.kind,.string n.text,.slice a n.kids.length cap,.int .i64 n.from',.int .i64 n.till] 26)) 0 w2.heap.size n (.agg #[.int .i64 n.kind,.string n.text,.slice a n.kids.length cap,.int .i64 n.from',.int .i64 n.till]) from⟨a,cap,rfl,hcap,af4 hrow hal⟩)
 have hsz:=hal.size
 have hlt:w.heap.size<w1.heap.size:=HQ.out.lt
 generalize World.alloc w2 _=w3 at*
 have HB3:=hJ hb3
 have HQ3:=hJ hq3
 obtain⟨x0,x1,x2,x3,x4,y0,y1,y2,y3,y4⟩:=aa4.facts hbx
 clear hb1 hb2 hb3 hal hq3 hrow HQ HB HE HX hcap
 go_wp2_with (first|(go_at_call 13;refine(bk2 _ _).mono ?_;rintro e w9 ⟨rfl,rfl⟩)|(go_at_call 16;refine(bo4 n _ w3 0 w2.heap.size HV.out hsz hz).mono ?_;rintro e w4 ⟨u,rfl,hu,hb4⟩;have HB4:=hJ (aa7 HB3.out hb4);have hq4:=HQ3.out.bel hb4;have HU:=hJ hu;have HQ4:=hJ hq4;obtain⟨b4,cap4,rfl,_⟩:=hu;clear hb4 x0 x1 x2 x3 x4 y0 y1 y2 y3 y4;unfold aa8 at*;obtain⟨x0,x1,x2,x3,x4,y0,y1,y2,y3,y4⟩:=aa4.facts hq4;have hql:=hq4.lt;clear hq4))
 refine bodyPost_ret (bc5 rfl (b:=w.heap.size) rfl rfl HQ4.out.lay) rfl ?_
 obtain⟨b5,cap5,e5,hr5⟩:=HU.out
 exact⟨_,rfl,⟨b5,cap5,e5,RowE.keeps.k (show w.heap.size≤w3.heap.size by omega) (Nat.le_of_eq (by simp [World.setCell])) (fun k h1 _=>lay5_block _ _ _ _ _ _ _ _ (by omega)) hr5⟩,lay5_bel HB4.out (Nat.le_refl _) _ _ _ _ _⟩
theorem aX3 {s:ByteArray} {n:Nd} {q:Ps} (F:Nat) (hF:F≤1073741824) (hs:s.size≤1048576) (hE:aA6 s false F= .ok n q) (hz:aa1 n≤4194304) (hz2:aa1 (ai3 n)≤4194304) (want:Nd) (vw:Value) (L B:Nat) (w:World) (hw:NdV w L B want vw) (hB:B≤w.heap.size) (hx:Lx w):
  Calls Tryz.prog 8 #[.string s,vw] w fun e w'=>e= .returned (.bool (aj7 (ai3 n) want))∧Below w.heap.size w w':=by
 obtain⟨b,cap,rfl,hcap,hrow⟩:=hw
 unfold aa8
 have hba:=ad3 w (.cells #[.int .i64 want.kind,.string want.text,.slice b want.kids.length cap,.int .i64 want.from',.int .i64 want.till] 26)
 have hbq:aa4 (w.alloc (.cells #[.int .i64 want.kind,.string want.text,.slice b want.kids.length cap,.int .i64 want.from',.int .i64 want.till] 26)) w.heap.size want.kind want.text (.slice b want.kids.length cap) want.from' want.till:=aC5 w want b cap
 have HO:=hJ fun(W:World) (h:Lx W)=>bG9 F hF hs hE hz W h
 have HR:=hJ hrow
 have HX:=hJ hx
 clear hE hx hrow
 go_enter Tryz.func8,Tryz.ntmps8
 go_upto_region 1 with fail
 generalize World.alloc w _=w1 at*
 have HB:=hJ hba
 have HQ:=hJ hbq
 clear hba hbq
 go_upto_region 2 with (go_at_call 14;refine(HO.out _ (HX.out.bel HB.out)).mono ?_;rintro e w2 ⟨u,rfl,hu,hb1⟩;have HU:=hJ hu;obtain⟨b4,cap4,rfl,_⟩:=hu;unfold aa8 at*)
 have hal:=ad3 w2 (.cells #[.int .i64 (ai3 n).kind,.string (ai3 n).text,.slice b4 (ai3 n).kids.length cap4,.int .i64 (ai3 n).from',.int .i64 (ai3 n).till] 26)
 have hbx:aa4 (w2.alloc (.cells #[.int .i64 (ai3 n).kind,.string (ai3 n).text,.slice b4 (ai3 n).kids.length cap4,.int .i64 (ai3 n).from',.int .i64 (ai3 n).till] 26)) w2.heap.size (ai3 n).kind (ai3 n).text (.slice b4 (ai3 n).kids.length cap4) (ai3 n).from' (ai3 n).till:=aC5 w2 (ai3 n) b4 cap4
 have hb3:=aa7 (aa7 HB.out hb1) hal
 have hq3:=(HQ.out.bel hb1).bel hal
 have hsz0:=HB.out.size
 have hsz1:=hb1.size
 have hsz:=hal.size
 have HS:=hJ (bu6 (ai3 n) want _ _ _ 0 w2.heap.size ((aQ6 HU.out.v hal).low (Nat.zero_le _) (Nat.le_refl _)) ((show NdV _ L B want _ from⟨b,cap,rfl,hcap,af4 HR.out (hb3.mono hB)⟩).low (Nat.zero_le _) (show B≤w2.heap.size by omega)) hsz hz2)
 unfold aa8 at*
 generalize World.alloc w2 _=w3 at*
 have HB3:=hJ hb3
 obtain⟨x0,x1,x2,x3,x4,y0,y1,y2,y3,y4⟩:=aa4.facts hbx
 obtain⟨p0,p1,p2,p3,p4,r0,r1,r2,r3,r4⟩:=aa4.facts hq3
 clear hb1 hb3 hal hq3 hbx HQ HB HX HO HR HU
 go_wp2_with (go_at_call 15;refine HS.out.mono ?_;rintro e w4 ⟨rfl,hb4⟩)
 go_ret
 exact⟨rfl,aa7 HB3.out hb4⟩
end
section
open Go.RowKit
theorem NdV.kd {w:World} {L B:Nat} {n:Nd} {v:Value} (h:NdV w L B n v): ∃b cap,v= .agg #[.int .i64 n.kind,.string n.text,.slice b n.kids.length cap,.int .i64 n.from',.int .i64 n.till]∧n.kids.length≤cap∧RowP w L B n.kids b 0:=h
theorem ax6 (w:World) (L B:Nat) (a:Option Addr) (i:Nat):RowP w L B [] a i:=by rw [RowP];trivial
def RowA (w:World) (r B:Nat) (ks:List Nd) (a:Option Addr):Prop:= ∀w':World,(∀k,k<B→k≠r→w'.heap[k]? =w.heap[k]?)→RowP w' 0 B ks a 0
theorem RowA.row {w:World} {r B:Nat} {ks:List Nd} {a:Option Addr} (h:RowA w r B ks a):RowP w 0 B ks a 0:=h w fun _ _ _=>rfl
theorem RowA.bel {w w':World} {r B B':Nat} {ks:List Nd} {a:Option Addr} (h:RowA w r B ks a) (hb: ∀k,k<B→k≠r→w'.heap[k]? =w.heap[k]?) (hB:B≤B'):RowA w' r B' ks a:=
 fun w2 h2=>ae6 (Nat.le_refl _) hB (fun _ _ _=>rfl) (h w2 fun k hk hne=>(h2 k (by omega) hne).trans (hb k hk hne))
theorem RowA.nil (w:World) (r B:Nat) (a:Option Addr):RowA w r B [] a:=fun _ _=>ax6 _ _ _ _ _
theorem RowA.of {w:World} {r L B:Nat} {ks:List Nd} {a:Option Addr} (h:RowP w L B ks a 0) (hL:r<L):RowA w r B ks a:=
 fun w2 h2=>ae6 (Nat.zero_le _) (Nat.le_refl _) (fun k h1 hk=>h2 k hk (by omega)) h
theorem RowA.new {w W:World} {r:Nat} {T:TypeId} (ns:List Kd) (hn: ∀x ∈ ns,x.1.kids.length≤x.2.2∧RowA w r w.heap.size x.1.kids x.2.1) (hr:r≠w.heap.size)
  (hg:W.heap[w.heap.size]? =some (.cells (ns.flatMap aa6).toArray T (0,0))) (hk: ∀k,k<w.heap.size→k≠r→W.heap[k]? =w.heap[k]?):RowA W r (w.heap.size+1) (ns.map (·.1)) (some ⟨w.heap.size,0,none⟩):=by
 intro w' hw'
 have hg':w'.heap[w.heap.size]? =some (.cells (ns.flatMap aa6).toArray T (0,0)):=(hw' _ (Nat.lt_succ_self _) (Ne.symm hr)).trans hg
 refine an9 fun j hj=>⟨w.heap.size,0,rfl,?_⟩
 have hj':j<ns.length:=by simpa using hj
 have hcell: ∀i,i<5→w'.cell? ⟨w.heap.size,j*5+i,none⟩=(aa6 ns[j])[i]? :=fun i hi=>by
  rw [cell_of_row _ _ _ _ T (0,0) hg',List.getElem?_toArray]
  exact ak0 ns j i hj' hi
 obtain⟨h1,h2⟩:=hn _ (List.getElem_mem hj')
 rw [List.getElem_map,ak8,Nat.zero_add,Nat.zero_add]
 exact⟨ns[j].2.1,ns[j].2.2,Nat.zero_le _,Nat.lt_succ_self _,hcell 0 (by decide),hcell 1 (by decide),hcell 2 (by decide),hcell 3 (by decide),hcell 4 (by decide),h1,
  ae6 (Nat.le_refl _) (Nat.le_succ _) (fun _ _ _=>rfl) (h2 w' fun k hlt hne=>(hw' k (by omega) hne).trans (hk k hlt hne))⟩
structure WBox (w:World) (r:Nat) (n:Nd) (b:Option Addr) (cap:Nat):Prop where
 box:aa4 w r n.kind n.text (.slice b n.kids.length cap) n.from' n.till
 cap:n.kids.length≤cap
 row:RowA w r w.heap.size n.kids b
theorem WBox.bel {w w':World} {r:Nat} {n:Nd} {b:Option Addr} {cap:Nat} (h:WBox w r n b cap) (hb:Below w.heap.size w w'):WBox w' r n b cap:=
 ⟨h.box.bel hb,h.cap,h.row.bel (fun k hk _=>hb.block k hk) hb.size⟩
theorem WBox.v {w:World} {r:Nat} {n:Nd} {b:Option Addr} {cap:Nat} (h:WBox w r n b cap):NdV w 0 w.heap.size n (.agg #[.int .i64 n.kind,.string n.text,.slice b n.kids.length cap,.int .i64 n.from',.int .i64 n.till]):=⟨b,cap,rfl,h.cap,h.row.row⟩
theorem WBox.put {w W:World} {r:Nat} {ns:List Kd} {T:TypeId} (hr:r<w.heap.size) (hn: ∀x ∈ ns,x.1.kids.length≤x.2.2∧RowA w r w.heap.size x.1.kids x.2.1) {k:Int} {t:ByteArray} {m:Nat} (hm:ns.length=m)
  (hbx:aa4 W r k t (.slice (some ⟨w.heap.size,0,none⟩) m m) 0 0) (hg:W.heap[w.heap.size]? =some (.cells (ns.flatMap aa6).toArray T (0,0))) (hk: ∀i,i<w.heap.size→i≠r→W.heap[i]? =w.heap[i]?) (hs:W.heap.size=w.heap.size+1):
  WBox W r (.mk k t (ns.map (·.1)) 0 0) (some ⟨w.heap.size,0,none⟩) m:=by
 subst hm
 refine⟨?_,?_,?_⟩
 ·show aa4 _ r k t (.slice _ (ns.map (·.1)).length _) 0 0
  rw [List.length_map]
  exact hbx
 ·show(ns.map (·.1)).length≤_
  rw [List.length_map]
  exact Nat.le_refl _
 ·rw [hs]
  exact RowA.new ns hn (by omega) hg hk
structure WSt (w0:World) (r:Nat) (n:Nd) (W:World):Prop where
 ex: ∃b cap,WBox W r n b cap
 bel:Below w0.heap.size w0 W
 lo:w0.heap.size≤r
theorem WSt.next {w0 W W':World} {r:Nat} {n:Nd} (h:WSt w0 r n W) (hb:Below W.heap.size W W'):WSt w0 r n W':=by
 obtain⟨b,cap,hx⟩:=h.ex
 exact⟨⟨b,cap,hx.bel hb⟩,aa7 h.bel hb,h.lo⟩
theorem WSt.leaf {w0 w:World} (hb:Below w0.heap.size w0 w) (t:ByteArray):WSt w0 w.heap.size (.mk 1 t [] 0 0) (w.alloc (.cells #[.int .i64 1,.string t,.slice none 0 0,.int .i64 0,.int .i64 0] 26)):=
 ⟨⟨none,0,heap_alloc_new _ _,Nat.le_refl _,RowA.nil _ _ _ _⟩,hb.alloc hb.size _,hb.size⟩
theorem aJ6 {S:ByteArray} {l:List UInt8} (h:S.data.toList=l):S.size=l.length:=by
 rw [←h]
 exact Array.length_toList.symm
theorem aC2 (m:Nd):aa1 (ac5 m)≤aa1 m:=by
 induction m using Nd.ind with
 |h m ih=>
  rw [aw0]
  split
  ·cases hk:m.kids with
   |nil=>rw [aq8,Nd.zero,aa1,ac1,ac3];omega
   |cons k ks=>
    rw [aq8]
    have h1:=ih k (by rw [hk];exact .head _)
    have h2:=ak1 (show k ∈ m.kids by rw [hk];exact .head _)
    rw [ac3 m]
    omega
  ·rw [aa1,ac3 m]
   have key: ∀l:List Nd,(∀x ∈ l,aa1 (ac5 x)≤aa1 x)→ac1 (l.map ac5)≤ac1 l:=by
    intro l
    induction l with
    |nil=>intro _;exact Nat.le_refl _
    |cons x l ihl=>
     intro h
     rw [List.map_cons,ac1,ac1]
     have h1:=h x (.head _)
     have h2:=ihl fun y hy=>h y (.tail _ hy)
     omega
   have:=key m.kids ih
   omega
theorem as5 {n:Nd} (h:aa1 n≤8000):ai3 n=ac5 n:=by
 unfold ai3
 rw [if_pos (Nat.le_trans (bh1 n) h)]
end
section
open Go.RowKit
theorem aD2 (t:ByteArray) (w:World):Calls Tryz.prog 6 #[.string t] w fun e w'=>e= .returned (.agg #[.int .i64 1,.string t,.slice none 0 0,.int .i64 0,.int .i64 0])∧Below w.heap.size w w':=by
 go_enter Tryz.func6,Tryz.ntmps6
 go_wp2_with fail
 exact bodyPost_ret (results_nd rfl _ _ w.heap.size rfl (heap_alloc_new _ _)) rfl ⟨rfl,ad3 _ _⟩
end
section
open Go.RowKit
def be8 (w:World) (ao:Option Addr) (len:Nat):Prop:= ∀j,j<len→∃b off,ao=some ⟨b,off,none⟩∧b<w.heap.size∧∃z:Int,w.cell? ⟨b,off+j,none⟩=some (.int .i64 z)
theorem bJ6 (i:Int) (n:Nat) (hn:0<n): ∃a:Nat,(IntKind.u64.wrap i).tmod n=(a:Int)∧a<n:=by
 have e:IntKind.u64.wrap i=i % 18446744073709551616:=rfl
 have h1:0≤(IntKind.u64.wrap i).tmod n:=by rw [e,Int.tmod_eq_emod_of_nonneg (by omega)];exact Int.emod_nonneg _ (by omega)
 have h2:(IntKind.u64.wrap i).tmod n<n:=by rw [e,Int.tmod_eq_emod_of_nonneg (by omega)];exact Int.emod_lt_of_pos _ (by omega)
 exact⟨((IntKind.u64.wrap i).tmod n).toNat,by omega,by omega⟩
def StrS (g:Nat) (l:List (List UInt8)) (W:World):Prop:=g<W.heap.size∧∀a,(h:a<l.length)→W.cell? ⟨g,a,none⟩=some (.string ⟨l[a].toArray⟩)
theorem StrS.new (w:World) (l:List (List UInt8)) (T:TypeId):StrS w.heap.size l (w.alloc (.cells (l.map fun o=>Value.string ⟨o.toArray⟩).toArray T)):=by
 refine⟨by rw [World.size_alloc];exact Nat.lt_succ_self _,fun a h=> ?_⟩
 rw [cell_of_row _ _ _ _ T (0,0) (heap_alloc_new _ _),List.getElem?_toArray,List.getElem?_map,List.getElem?_eq_getElem h]
 rfl
theorem StrS.bel {g:Nat} {l:List (List UInt8)} {w w':World} (h:StrS g l w) (hb:Below w.heap.size w w'):StrS g l w':=
 ⟨Nat.lt_of_lt_of_le h.1 hb.size,fun a ha=>(World.cell?_of_block (hb.block g h.1)).trans (h.2 a ha)⟩
theorem StrS.lay {g r:Nat} {l:List (List UInt8)} {w:World} (h:StrS g l w) (hr:g≠r) (k:Int) (t:ByteArray) (v:Value) (f u:Int):StrS g l (lay5 w r k t v f u):=
 ⟨by rw [al3];exact h.1,fun a ha=>(World.cell?_of_block (lay5_block _ _ _ _ _ _ _ _ hr)).trans (h.2 a ha)⟩
end
end Go.Proofs.YtcgbkjhoifhnnaaGreatDoor
