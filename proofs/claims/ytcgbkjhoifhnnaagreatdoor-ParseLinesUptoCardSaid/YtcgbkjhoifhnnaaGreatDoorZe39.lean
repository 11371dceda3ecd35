/- Steps (Is Wn Str Stm). Conditions: as stated. -/
import Derived.Test.YtcgbkjhoifhnnaaGreatDoorZe35
import Derived.Test.YtcgbkjhoifhnnaaGreatDoorZe43
set_option maxHeartbeats 4000000
set_option maxRecDepth 100000
namespace Go.Proofs.YtcgbkjhoifhnnaaGreatDoor
section
open Go.RowKit
theorem NdW.low {w:World} {L L' B:Nat} {n:Nd} {v:Value} (h:NdW w L B n v) (hL:L'≤L):NdW w L' B n v:=by
 obtain⟨b,cap,h1,h2⟩:=h
 exact⟨b,cap,h1,RowE.keeps.k hL (Nat.le_refl _) (fun _ _ _=>rfl) h2⟩
theorem NdV.low {w:World} {L L' B B':Nat} {n:Nd} {v:Value} (h:NdV w L B n v) (hL:L'≤L) (hB:B≤B'):NdV w L' B' n v:=by
 obtain⟨b,cap,h1,h2,h3⟩:=h
 exact⟨b,cap,h1,h2,ae8 hL hB (fun _ _ _=>rfl) h3⟩
end
section
open Go.RowKit
theorem NdV.kd {w:World} {L B:Nat} {n:Nd} {v:Value} (h:NdV w L B n v): ∃b cap,v= .agg #[.int .i64 n.kind,.string n.text,.slice b n.kids.length cap,.int .i64 n.from',.int .i64 n.till]∧n.kids.length≤cap∧RowP w L B n.kids b 0:=h
theorem bs2 (w:World) (L B:Nat) (a:Option Addr) (i:Nat):RowP w L B [] a i:=by rw [RowP];trivial
def RowA (w:World) (r B:Nat) (ks:List Nd) (a:Option Addr):Prop:= ∀w':World,(∀k,k<B→k≠r→w'.heap[k]? =w.heap[k]?)→RowP w' 0 B ks a 0
theorem RowA.row {w:World} {r B:Nat} {ks:List Nd} {a:Option Addr} (h:RowA w r B ks a):RowP w 0 B ks a 0:=h w fun _ _ _=>rfl
theorem RowA.bel {w w':World} {r B B':Nat} {ks:List Nd} {a:Option Addr} (h:RowA w r B ks a) (hb: ∀k,k<B→k≠r→w'.heap[k]? =w.heap[k]?) (hB:B≤B'):RowA w' r B' ks a:=
 fun w2 h2=>ae8 (Nat.le_refl _) hB (fun _ _ _=>rfl) (h w2 fun k hk hne=>(h2 k (by omega) hne).trans (hb k hk hne))
theorem RowA.nil (w:World) (r B:Nat) (a:Option Addr):RowA w r B [] a:=fun _ _=>bs2 _ _ _ _ _
theorem RowA.of {w:World} {r L B:Nat} {ks:List Nd} {a:Option Addr} (h:RowP w L B ks a 0) (hL:r<L):RowA w r B ks a:=
 fun w2 h2=>ae8 (Nat.zero_le _) (Nat.le_refl _) (fun k h1 hk=>h2 k hk (by omega)) h
theorem RowA.new {w W:World} {r:Nat} {T:TypeId} (ns:List Kd) (hn: ∀x ∈ ns,x.1.kids.length≤x.2.2∧RowA w r w.heap.size x.1.kids x.2.1) (hr:r≠w.heap.size)
  (hg:W.heap[w.heap.size]? =some (.cells (ns.flatMap ab3).toArray T (0,0))) (hk: ∀k,k<w.heap.size→k≠r→W.heap[k]? =w.heap[k]?):RowA W r (w.heap.size+1) (ns.map (·.1)) (some ⟨w.heap.size,0,none⟩):=by
 intro w' hw'
 have hg':w'.heap[w.heap.size]? =some (.cells (ns.flatMap ab3).toArray T (0,0)):=(hw' _ (Nat.lt_succ_self _) (Ne.symm hr)).trans hg
 refine as3 fun j hj=>⟨w.heap.size,0,rfl,?_⟩
 have hj':j<ns.length:=by simpa using hj
 have hcell: ∀i,i<5→w'.cell? ⟨w.heap.size,j*5+i,none⟩=(ab3 ns[j])[i]? :=fun i hi=>by
  rw [cell_of_row _ _ _ _ T (0,0) hg',List.getElem?_toArray]
  exact an2 ns j i hj' hi
 obtain⟨h1,h2⟩:=hn _ (List.getElem_mem hj')
 rw [List.getElem_map,an4,Nat.zero_add,Nat.zero_add]
 exact⟨ns[j].2.1,ns[j].2.2,Nat.zero_le _,Nat.lt_succ_self _,hcell 0 (by decide),hcell 1 (by decide),hcell 2 (by decide),hcell 3 (by decide),hcell 4 (by decide),h1,
  ae8 (Nat.le_refl _) (Nat.le_succ _) (fun _ _ _=>rfl) (h2 w' fun k hlt hne=>(hw' k (by omega) hne).trans (hk k hlt hne))⟩
structure WBox (w:World) (r:Nat) (n:Nd) (b:Option Addr) (cap:Nat):Prop where
 box:ab0 w r n.kind n.text (.slice b n.kids.length cap) n.from' n.till
 cap:n.kids.length≤cap
 row:RowA w r w.heap.size n.kids b
theorem WBox.bel {w w':World} {r:Nat} {n:Nd} {b:Option Addr} {cap:Nat} (h:WBox w r n b cap) (hb:Below w.heap.size w w'):WBox w' r n b cap:=
 ⟨h.box.bel hb,h.cap,h.row.bel (fun k hk _=>hb.block k hk) hb.size⟩
theorem WBox.v {w:World} {r:Nat} {n:Nd} {b:Option Addr} {cap:Nat} (h:WBox w r n b cap):NdV w 0 w.heap.size n (.agg #[.int .i64 n.kind,.string n.text,.slice b n.kids.length cap,.int .i64 n.from',.int .i64 n.till]):=⟨b,cap,rfl,h.cap,h.row.row⟩
theorem WBox.put {w W:World} {r:Nat} {ns:List Kd} {T:TypeId} (hr:r<w.heap.size) (hn: ∀x ∈ ns,x.1.kids.length≤x.2.2∧RowA w r w.heap.size x.1.kids x.2.1) {k:Int} {t:ByteArray} {m:Nat} (hm:ns.length=m)
  (hbx:ab0 W r k t (.slice (some ⟨w.heap.size,0,none⟩) m m) 0 0) (hg:W.heap[w.heap.size]? =some (.cells (ns.flatMap ab3).toArray T (0,0))) (hk: ∀i,i<w.heap.size→i≠r→W.heap[i]? =w.heap[i]?) (hs:W.heap.size=w.heap.size+1):
  WBox W r (.mk k t (ns.map (·.1)) 0 0) (some ⟨w.heap.size,0,none⟩) m:=by
 subst hm
 refine⟨?_,?_,?_⟩
 ·show ab0 _ r k t (.slice _ (ns.map (·.1)).length _) 0 0
  rw [List.length_map]
  exact hbx
 ·show(ns.map (·.1)).length≤_
  rw [List.length_map]
  exact Nat.le_refl _
 ·rw [hs]
  exact RowA.new ns hn (by omega) hg hk
structure WSt (w0:World) (r:Nat) (n:Nd) (W:World):Prop where
 ex: ∃b cap,WBox W r n b cap
 bel:Below w0.heap.size w0 W
 lo:w0.heap.size≤r
theorem WSt.next {w0 W W':World} {r:Nat} {n:Nd} (h:WSt w0 r n W) (hb:Below W.heap.size W W'):WSt w0 r n W':=by
 obtain⟨b,cap,hx⟩:=h.ex
 exact⟨⟨b,cap,hx.bel hb⟩,aa6 h.bel hb,h.lo⟩
theorem WSt.leaf {w0 w:World} (hb:Below w0.heap.size w0 w) (t:ByteArray):WSt w0 w.heap.size (.mk 1 t [] 0 0) (w.alloc (.cells #[.int .i64 1,.string t,.slice none 0 0,.int .i64 0,.int .i64 0] 26)):=
 ⟨⟨none,0,heap_alloc_new _ _,Nat.le_refl _,RowA.nil _ _ _ _⟩,hb.alloc hb.size _,hb.size⟩
theorem aQ9 {S:ByteArray} {l:List UInt8} (h:S.data.toList=l):S.size=l.length:=by
 rw [←h]
 exact Array.length_toList.symm
theorem be7 (m:Nd):aa2 (ac6 m)≤aa2 m:=by
 induction m using Nd.ind with
 |h m ih=>
  rw [ax6]
  split
  ·cases hk:m.kids with
   |nil=>rw [av3,Nd.zero,aa2,ad1,ad0];omega
   |cons k ks=>
    rw [av3]
    have h1:=ih k (by rw [hk];exact .head _)
    have h2:=al1 (show k ∈ m.kids by rw [hk];exact .head _)
    rw [ad0 m]
    omega
  ·rw [aa2,ad0 m]
   have key: ∀l:List Nd,(∀x ∈ l,aa2 (ac6 x)≤aa2 x)→ad1 (l.map ac6)≤ad1 l:=by
    intro l
    induction l with
    |nil=>intro _;exact Nat.le_refl _
    |cons x l ihl=>
     intro h
     rw [List.map_cons,ad1,ad1]
     have h1:=h x (.head _)
     have h2:=ihl fun y hy=>h y (.tail _ hy)
     omega
   have:=key m.kids ih
   omega
theorem bo2 {n:Nd} (h:aa2 n≤8000):az5 n=ac6 n:=by
 unfold az5
 rw [if_pos (Nat.le_trans (bg2 n) h)]
end
section
open Go.RowKit
def be2 (w:World) (ao:Option Addr) (len:Nat):Prop:= ∀j,j<len→∃b off,ao=some ⟨b,off,none⟩∧b<w.heap.size∧∃z:Int,w.cell? ⟨b,off+j,none⟩=some (.int .i64 z)
theorem bL4 (i:Int) (n:Nat) (hn:0<n): ∃a:Nat,(IntKind.u64.wrap i).tmod n=(a:Int)∧a<n:=by
 have e:IntKind.u64.wrap i=i % 18446744073709551616:=rfl
 have h1:0≤(IntKind.u64.wrap i).tmod n:=by rw [e,Int.tmod_eq_emod_of_nonneg (by omega)];exact Int.emod_nonneg _ (by omega)
 have h2:(IntKind.u64.wrap i).tmod n<n:=by rw [e,Int.tmod_eq_emod_of_nonneg (by omega)];exact Int.emod_lt_of_pos _ (by omega)
 exact⟨((IntKind.u64.wrap i).tmod n).toNat,by omega,by omega⟩
def StrS (g:Nat) (l:List (List UInt8)) (W:World):Prop:=g<W.heap.size∧∀a,(h:a<l.length)→W.cell? ⟨g,a,none⟩=some (.string ⟨l[a].toArray⟩)
theorem StrS.new (w:World) (l:List (List UInt8)) (T:TypeId):StrS w.heap.size l (w.alloc (.cells (l.map fun o=>Value.string ⟨o.toArray⟩).toArray T)):=by
 refine⟨by rw [World.size_alloc];exact Nat.lt_succ_self _,fun a h=> ?_⟩
 rw [cell_of_row _ _ _ _ T (0,0) (heap_alloc_new _ _),List.getElem?_toArray,List.getElem?_map,List.getElem?_eq_getElem h]
 rfl
theorem StrS.bel {g:Nat} {l:List (List UInt8)} {w w':World} (h:StrS g l w) (hb:Below w.heap.size w w'):StrS g l w':=
 ⟨Nat.lt_of_lt_of_le h.1 hb.size,fun a ha=>(World.cell?_of_block (hb.block g h.1)).trans (h.2 a ha)⟩
theorem StrS.lay {g r:Nat} {l:List (List UInt8)} {w:World} (h:StrS g l w) (hr:g≠r) (k:Int) (t:ByteArray) (v:Value) (f u:Int):StrS g l (lay5 w r k t v f u):=
 ⟨by rw [al8];exact h.1,fun a ha=>(World.cell?_of_block (lay5_block _ _ _ _ _ _ _ _ hr)).trans (h.2 a ha)⟩
end
section
open Go.RowKit
theorem by2 (v0 v1 v2 v3 v4:Value) (W:World):(Instr.field 26 (.agg #[v0,v1,v2,v3,v4]) 2).run Tryz.prog W= .ok v2 W:=by kernel_rfl
attribute [local go_sem] by2
theorem av1 {s:ByteArray} {n:Nd} {q:Ps} (F:Nat) (hF:F≤1073741824) (hs:s.size≤1048576) (hE:ai6 s false F= .ok n q) (hz:aa2 n≤4194304) (w:World) (hx:Lx w):
  Calls Tryz.prog 9 #[.string s] w fun e w'=> ∃b cap,e= .returned (.tuple #[.slice b (az5 n).kids.length cap,.bool true])∧(az5 n).kids.length≤cap∧RowP w' w.heap.size w'.heap.size (az5 n).kids b 0∧Below w.heap.size w w':=by
 have HE:=hJ hE
 have HX:=hJ hx
 clear hE hx
 go_enter Tryz.func9,Tryz.ntmps9
 go_wp2_with fail
 refine(as2 false F hs hF w HX.out HE.out (by intro h;cases h)).mono ?_
 rintro e w2 ⟨⟨a,cap,sa,sc,rfl,hcap,hrow⟩,hb1⟩
 have hsz2:w.heap.size≤w2.heap.size:=hb1.size
 have hbx:ab0 (w2.alloc (.cells #[.int .i64 n.kind,.string n.text,.slice a n.kids.length cap,.int .i64 n.from',.int .i64 n.till] 26)) w2.heap.size n.kind n.text (.slice a n.kids.length cap) n.from' n.till:=aR1 w2 n a cap
 have hal:=ax4 w2 (.cells #[.int .i64 n.kind,.string n.text,.slice a n.kids.length cap,.int .i64 n.from',.int .i64 n.till] 26)
 have hb3:=aa6 hb1 hal
 have HV:=hJ (show NdV (w2.alloc (.cells #[.int .i64 n.kind,.string n.text,.slice a n.kids.length cap,.int .i64 n.from',.int .i64 n.till] 26)) 0 w2.heap.size n (.agg #[.int .i64 n.kind,.string n.text,.slice a n.kids.length cap,.int .i64 n.from',.int .i64 n.till]) from⟨a,cap,rfl,hcap,ah2 hrow hal⟩)
 have hsz:=hal.size
 go_upto_region 2 with fail
 generalize World.alloc w2 _=w3 at*
 have HB3:=hJ hb3
 obtain⟨x0,x1,x2,x3,x4,y0,y1,y2,y3,y4⟩:=ab0.facts hbx
 clear hb1 hb3 hal hrow HE HX hcap
 go_wp2_with (first|(go_at_call 13;refine(bj8 _ _).mono ?_;rintro e w9 ⟨rfl,rfl⟩)|(go_at_call 16;refine(bn5 n _ w3 0 w2.heap.size HV.out hsz hz).mono ?_;rintro e w4 ⟨u,rfl,hu,hb4⟩;have HB4:=hJ (aa6 HB3.out hb4);have HR:=hJ hu.v;obtain⟨b4,cap4,rfl,hc4,hr4⟩:=hu.v;replace HR:=hJ hr4;have HC:=hJ hc4;clear hu hb4 hr4 hc4 x0 x1 x2 x3 x4 y0 y1 y2 y3 y4;unfold ad2 at*))
 refine bodyPost_ret (results_tmp2 rfl _ _ _) rfl ?_
 exact⟨b4,cap4,rfl,HC.out,ae8 (show w.heap.size≤w3.heap.size by omega) (Nat.le_refl _) (fun _ _ _=>rfl) HR.out,HB4.out⟩
theorem bm6 (a b:List Nd) (pa pb:Option Addr) (ca cb:Nat) (w:World) (L B:Nat) (ha:RowP w L B a pa 0) (hca:a.length≤ca) (hb:RowP w L B b pb 0) (hcb:b.length≤cb) (hB:B≤w.heap.size) (hz:ad1 a≤4194303):
  Calls Tryz.prog 10 #[.slice pa a.length ca,.slice pb b.length cb] w fun e w'=>e= .returned (.bool (ao3 (.mk 0 ⟨#[]⟩ a 0 0) (.mk 0 ⟨#[]⟩ b 0 0)))∧Below w.heap.size w w':=by
 have HS:=hJ (bt5 (.mk 0 ⟨#[]⟩ a 0 0) (.mk 0 ⟨#[]⟩ b 0 0) _ _ w L B ⟨pa,ca,rfl,hca,ha⟩ ⟨pb,cb,rfl,hcb,hb⟩ hB (by rw [aa2];omega))
 unfold ad2 at HS
 go_enter Tryz.func10,Tryz.ntmps10
 go_wp2_with fail
 refine HS.out.mono ?_
 rintro e w2 ⟨rfl,hb2⟩
 go_wp2_with fail
 go_ret
 exact⟨rfl,hb2⟩
end
end Go.Proofs.YtcgbkjhoifhnnaaGreatDoor
