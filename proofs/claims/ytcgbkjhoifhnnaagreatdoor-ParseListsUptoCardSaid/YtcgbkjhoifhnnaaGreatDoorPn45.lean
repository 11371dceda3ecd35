/- Steps (Li). Conditions: as stated. -/
import Derived.Test.YtcgbkjhoifhnnaaGreatDoorPn43
import Derived.Test.YtcgbkjhoifhnnaaGreatDoorPn44
import Derived.Test.YtcgbkjhoifhnnaaGreatDoorPn40
set_option maxHeartbeats 32000000
set_option maxRecDepth 100000
namespace Go.Proofs.YtcgbkjhoifhnnaaGreatDoor
section
open Go.RowKit
theorem ag7 {a b:ByteArray} (h:a.size+b.size≤1000) (W:World):(Op.stringOp .add a b).run Tryz.prog W= .ok (.string (a++b)) W:=by
 have hm:IntKind.i64.max=9223372036854775807:=rfl
 unfold Op.stringOp
 simp only []
 rw [if_neg (by rw [hm];omega)]
 rfl
theorem ag6 {w:World} {o:Obj} {g:Nat} (hg:w.heap.size=g):(w.alloc o).heap[g]? =some o:=hg▸heap_alloc_new w o
theorem aK6 {W:World} {n:Nd} (hk:n.kids= []) {T:TypeId} :RowP (W.alloc (.cells (aa6 (n,none,0)).toArray T)) W.heap.size (W.heap.size+1) [n] (some ⟨W.heap.size,0,none⟩) 0:=
 aI4 [n] (fun m hm=>by rw [List.mem_singleton.1 hm];exact hk) (heap_alloc_new W _)
theorem ar3 {k:Int} {t:ByteArray} {a:Option Addr} {n c:Nat} : ∀y ∈ ([.int .i64 k,.string t,.slice a n c,.int .i64 0,.int .i64 0]:List Value),y.oneCell'=true:=by
 intro y hy
 simp only [List.mem_cons,List.not_mem_nil,or_false] at hy
 rcases hy with rfl|rfl|rfl|rfl|rfl<;>rfl
theorem aY9 (g:Li→List UInt8) (hg: ∀x:Li,x.2.length≤2→(g x).length≤8): ∀ls:List Li,(∀x ∈ ls,x.2.length≤2)→(ls.flatMap g).length≤8*ls.length
 | [],_=>Nat.le_refl _
 |x::ls,h=>by
  have h1:=aY9 g hg ls fun y hy=>h y (.tail _ hy)
  have h2:=hg x (h x (.head _))
  rw [List.flatMap_cons,List.length_append,List.length_cons]
  omega
theorem bn4 (x:Li) (h:x.2.length≤2):(spI x).length≤6:=by
 unfold spI
 split<;>simp only [List.length_cons]<;>omega
theorem by4 (x:Li) (h:x.2.length≤2):(arrI x).length≤8:=by
 have:=bn4 x h
 unfold arrI
 split
 ·decide
 ·rw [List.length_append,List.length_singleton];omega
theorem by3 (x:Li) (h:x.2.length≤2):(argI x).length≤8:=by
 have:=bn4 x h
 unfold argI
 split
 ·decide
 ·rw [List.length_append,List.length_singleton];omega
theorem bB6 (x:Li) (h:x.2.length≤2):(objI x).length≤8:=by
 have:=bn4 x h
 unfold objI
 split
 ·rw [List.length_append,List.length_singleton,List.length_cons];omega
 ·split
  ·rw [List.length_append,List.length_singleton];omega
  ·simp only [List.cons_append,List.length_append,List.length_cons,List.length_nil];omega
theorem aC8 (g:Li→List UInt8) (ls:List Li) (x:Li):(ls++ [x]).flatMap g=ls.flatMap g++g x:=by rw [List.flatMap_append,List.flatMap_cons,List.flatMap_nil,List.append_nil]
structure LiR (w:World) (r len j:Nat) (ls:List Li) (S T U:ByteArray) (va vo vc:Value) (A O C:List Nd) (top:Nat) (wr:World):Prop where
 hj:j≤len
 h40:j≤40
 n:ls.length=j
 hS:S.data.toList=91::ls.flatMap arrI
 hT:T.data.toList=40::123::ls.flatMap objI
 hU:U.data.toList=102::40::ls.flatMap argI
 dg: ∀x ∈ ls,Dg x.2∧x.2.length≤2
 ha:A=ls.map arrN
 ho:O=ls.map objN
 hc:C=(ls.filter fun x=>decide (x.1≠0)).map spN
 st:LiSt w r (tri va vo vc) (tri A O C) top wr
def bb1 (w:World) (r len:Nat) (s t u i:Value) (wr:World):Prop:= ∃(j:Nat) (ls:List Li) (S T U:ByteArray) (va vo vc:Value) (A O C:List Nd) (top:Nat),i= .int .i64 j∧s= .string S∧t= .string T∧u= .string U∧LiR w r len j ls S T U va vo vc A O C top wr
theorem bb1.more {w wr wr':World} {r len j top top':Nat} {ls:List Li} {S T U S' T' U':ByteArray} {va vo vc va' vo' vc' i:Value} {A O C C':List Nd} (x:Li) (h:LiR w r len j ls S T U va vo vc A O C top wr) (hlt:j<len) (h40:j<40) (hx:Dg x.2∧x.2.length≤2) (hi:i= .int .i64 ((j+1:Nat):Int))
  (hS:S'.data.toList=S.data.toList++arrI x) (hT:T'.data.toList=T.data.toList++objI x) (hU:U'.data.toList=U.data.toList++argI x) (hC:C'=if x.1=0 then C else C++ [spN x]) (hst:LiSt w r (tri va' vo' vc') (tri (A++ [arrN x]) (O++ [objN x]) C') top' wr'):bb1 w r len (.string S') (.string T') (.string U') i wr':=
 ⟨j+1,ls++ [x],S',T',U',va',vo',vc',_,_,_,top',hi,rfl,rfl,rfl,hlt,h40,by simp [h.n],by rw [hS,h.hS,aC8];rfl,by rw [hT,h.hT,aC8];rfl,by rw [hU,h.hU,aC8];rfl,fun y hy=>(List.mem_append.1 hy).elim (h.dg y) fun hy=>by rw [List.mem_singleton.1 hy];exact hx,by rw [h.ha,List.map_append];rfl,by rw [h.ho,List.map_append];rfl,by
  rw [hC,h.hc,List.filter_append]
  split
  ·rw [List.filter_cons_of_neg (by simp [‹x.1=0›]),List.filter_nil,List.append_nil]
  ·rw [List.filter_cons_of_pos (by simp [‹¬x.1=0›]),List.filter_nil,List.map_append]
   rfl,hst⟩
theorem tri3 {α:Type} {a b c a' b' c' x:α} (i:Nat) (ha:a'=if 0=i then x else a) (hb:b'=if 1=i then x else b) (hc:c'=if 2=i then x else c): ∀j,j<3→tri a' b' c' j=if j=i then x else tri a b c j
 |0,_=>ha
 |1,_=>hb
 |2,_=>hc
theorem bj6 (ao:Option Addr) (len cap:Nat) (w:World) (hc:be8 w ao len) (hl:len≤33554432) (hx:Lx w):
  Calls Tryz.prog 3 #[.slice ao len cap] w fun e w'=>e= .returned (.bool true)∧Below w.heap.size w w':=by
 have HC:=hJ hc
 have HX:=hJ hx
 clear hc hx
 obtain⟨i0,hi,hz0,hz1,hz2⟩:=info_parts bw8
 go_enter Tryz.func3,Tryz.ntmps3
 go_wp2_with fail
 refine(bf3 w HX.out).mono ?_
 rintro e w1 ⟨rfl,hb1⟩
 go_upto_region 5 with fail
 have HB1:=hJ hb1
 have hs:LiSt w w1.heap.size (tri (.slice none 0 0) (.slice none 0 0) (.slice none 0 0)) (tri [] [] []) (w1.heap.size+3) (((w1.alloc (.cells #[.int .i64 11,.string ⟨#[]⟩,.slice none 0 0,.int .i64 0,.int .i64 0] 26)).alloc (.cells #[.int .i64 12,.string ⟨#[]⟩,.slice none 0 0,.int .i64 0,.int .i64 0] 26)).alloc (.cells #[.int .i64 36,.string ⟨#[]⟩,.slice none 0 0,.int .i64 0,.int .i64 0] 26)):=LiSt.start hb1
 have HS:=hJ hs
 clear hs hb1
 generalize World.alloc (World.alloc (World.alloc w1 _) _) _=w5 at*
 generalize w1.heap.size=r at*
 go_wp2_with fail
 go_loopw [3,4,5,9,10,73,96] (fun s t u i _ _ _ wr=>bb1 w r len s t u i wr) (fun _ _ _ i _ _ _ _=>40 - (intOf i).toNat)
 case atStart=>exact⟨0,[],⟨#[91]⟩,⟨#[40,123]⟩,⟨#[102,40]⟩,_,_,_,[],[],[],_,rfl,rfl,rfl,rfl,⟨Nat.zero_le _,Nat.zero_le _,rfl,rfl,rfl,rfl,(fun x hx=>by cases hx),rfl,rfl,rfl,HS.out⟩⟩
 case round=>
  clear HS HB1
  obtain⟨j,ls,S,T,U,va,vo,vc,A,O,C,top,rfl,rfl,rfl,rfl,hR⟩:=hrel
  have HR:=hJ hR
  have hll: ∀x ∈ ls,x.2.length≤2:=fun x hx=>(hR.dg x hx).2
  have hSs:S.size≤322:=by have h1:=aY9 arrI by4 ls hll;have h2:=hR.n;have h3:=hR.h40;rw [aJ6 hR.hS,List.length_cons];omega
  have hTs:T.size≤322:=by have h1:=aY9 objI bB6 ls hll;have h2:=hR.n;have h3:=hR.h40;rw [aJ6 hR.hT,List.length_cons,List.length_cons];omega
  have hUs:U.size≤322:=by have h1:=aY9 argI by3 ls hll;have h2:=hR.n;have h3:=hR.h40;rw [aJ6 hR.hU,List.length_cons,List.length_cons];omega
  have hA40:A.length≤40:=by rw [hR.ha,List.length_map,hR.n];exact hR.h40
  have hO40:O.length≤40:=by rw [hR.ho,List.length_map,hR.n];exact hR.h40
  have hC40:C.length≤40:=by rw [hR.hc,List.length_map];exact Nat.le_trans (List.length_filter_le _ _) (by rw [hR.n];exact hR.h40)
  have hj:=hR.hj
  have hj40:=hR.h40
  have HST:=hJ hR.st
  obtain⟨ba,ca,hva,-⟩:=hR.st.val 0 (by decide)
  obtain⟨bo,co,hvo,-⟩:=hR.st.val 1 (by decide)
  obtain⟨bc,cc,hvc,-⟩:=hR.st.val 2 (by decide)
  replace hva:va= .slice ba A.length ca:=hva
  replace hvo:vo= .slice bo O.length co:=hvo
  replace hvc:vc= .slice bc C.length cc:=hvc
  obtain⟨ma,hma⟩: ∃m,A.length=m:=⟨_,rfl⟩
  obtain⟨mo,hmo⟩: ∃m,O.length=m:=⟨_,rfl⟩
  obtain⟨mc,hmc⟩: ∃m,C.length=m:=⟨_,rfl⟩
  rw [hma] at hva hA40
  rw [hmo] at hvo hO40
  rw [hmc] at hvc hC40
  subst hva hvo hvc
  have HMA:=hJ hma
  have HMO:=hJ hmo
  have HMC:=hJ hmc
  clear hma hmo hmc hll
  by_cases hlt:j<len∧j<40
  ·obtain⟨hlt,hlt40⟩:=hlt
   obtain⟨b,off,rfl,hb,z,hz⟩:=HC.out j hlt
   rw [←hR.st.bel.cell (p:=⟨b,off+j,none⟩) hb] at hz
   have hb2:b<wr.heap.size:=Nat.lt_of_lt_of_le hb hR.st.bel.size
   obtain⟨a,ha,ha2⟩:=bJ6 z 3 (by decide)
   replace ha:(IntKind.u64.wrap z).tmod 3=(a:Int):=ha
   have hdl:Dg (dcl j)∧(dcl j).length≤2:=⟨⟨(aK1 ⟨j,by omega⟩).2.1,(aK1 ⟨j,by omega⟩).2.2⟩,(aK1 ⟨j,by omega⟩).1⟩
   obtain⟨D,hD⟩: ∃D:ByteArray,(⟨(dcl j).toArray⟩:ByteArray)=D:=⟨_,rfl⟩
   have hDd:D.data.toList=dcl j:=by rw [←hD]
   have hDs:D.size≤2:=by rw [aJ6 hDd];exact hdl.2
   have HDC:=hJ (fun W:World=>show Calls Tryz.prog 7 #[.int .i64 ((j:Nat):Int)] W fun e w'=>e= .returned (.string D)∧Below W.heap.size W w' from by have h:=bb9 j (by omega) W;rw [hD] at h;exact h)
   have av:=fun W=>ag7 (a:=⟨#[118]⟩) (b:=D) (show 1+D.size≤1000 by omega) W
   obtain⟨V,hV⟩: ∃V,(⟨#[118]⟩:ByteArray)++D=V:=⟨_,rfl⟩
   have hVd:V.data.toList=118::dcl j:=by rw [←hV,ByteArray.data_append,Array.toList_append,hDd];rfl
   have hVs:V.size≤3:=by rw [←hV,ByteArray.size_append];show 1+D.size≤3;omega
   have hVv:V=⟨(118::dcl j).toArray⟩:=by apply bf4;rw [hVd]
   rw [hV] at av
   have HDL:=hJ hdl
   have HVD:=hJ hVd
   have HVV:=hJ hVv
   clear hdl hD hDd hVd hVv hV hR
   go_upto_region 9 with (first|(go_at_call 7;refine(HDC.out _).mono ?_;rintro e w2 ⟨rfl,hb3⟩;replace HST:=hJ (HST.out.next hb3);have hz2:=(World.cell?_of_block (a:=⟨b,off+j,none⟩) (hb3.block b hb2)).trans hz;have hb4:b<w2.heap.size:=Nat.lt_of_lt_of_le hb2 hb3.size;clear hb3 hz hb2)|(go_at_call 6;refine(aD2 V _).mono ?_;rintro e w3 ⟨rfl,hb3⟩;replace HST:=hJ (HST.out.next hb3);have hz3:=(World.cell?_of_block (a:=⟨b,off+j,none⟩) (hb3.block b hb4)).trans hz2;have hb5:b<w3.heap.size:=Nat.lt_of_lt_of_le hb4 hb3.size;clear hb3 hz2 hb4))
   have HX4:=hJ (LiX.new HST.out V)
   obtain⟨gx,hgx⟩: ∃g,w3.heap.size=g:=⟨_,rfl⟩
   have hz4:=(World.cell?_of_block (a:=⟨b,off+j,none⟩) (Below.heap_alloc w3 (.cells #[.int .i64 1,.string V,.slice none 0 0,.int .i64 0,.int .i64 0] 26) b hb5)).trans hz3
   have hb6:b<(w3.alloc (.cells #[.int .i64 1,.string V,.slice none 0 0,.int .i64 0,.int .i64 0] 26)).heap.size:=by rw [World.size_alloc];omega
   rw [hgx] at HX4⊢
   generalize World.alloc w3 _=w4 at*
   clear HST hz3 hb5 hgx
   have HXL:=HX
   clear HX
   have HX:=HX4
   clear HX4
   obtain⟨⟨s0,s1,s2⟩,⟨t0,t1,t2⟩,⟨l0,l1,l2⟩,⟨x0,x1,x2,x3,x4⟩,lx⟩:=HX.out.fs
   have h4:a=0∨a=1∨a=2:=by omega
   rcases h4 with h|h|h
   ·have ha':(IntKind.u64.wrap z).tmod 3=0:=by rw [ha,h];rfl
    clear ha h ha2
    have a0:=fun W=>ag7 (a:=S) (b:=⟨#[44]⟩) (by (try simp only [ByteArray.size_append]);show S.size+1≤1000;omega) W
    have a1:=fun W=>ag7 (a:=T) (b:=V) (by (try simp only [ByteArray.size_append]);show T.size+V.size≤1000;omega) W
    have a2:=fun W=>ag7 (a:=T++V) (b:=⟨#[44]⟩) (by (try simp only [ByteArray.size_append]);show T.size+V.size+1≤1000;omega) W
    go_upto_region 18 with fail
    obtain⟨cs,OW,PU⟩:=HX.out.own (w1:=w4) 0 (by decide) (m:=ma) HMA.out (Below.refl _ _)
    go_upto_region 19 with (at_builtin;refine wpList_append_lies (w:=_) (by rfl) _ _ _ (by rfl) 0 26 i0 _ 5 64 (by kernel_rfl) hi hz0 hz1 hz2 (by rfl) (by decide) (.slice ba ma ca) ma cs (by rfl) (OW.alloc _) ⟨w4.heap.size,0,none⟩ 1 1 [.int .i64 0,.string ⟨#[]⟩,.slice none 0 0,.int .i64 0,.int .i64 0] (by rfl) (by rfl) (World.news_of_block (ag6 (by simp))) ar3 (by decide) (by unfold maxLen;omega) (by omega) (Nat.zero_le _) (w4.heap.size+1) (by simp) ?_;intro g7 c7 w6 hown6 hgrow6 hat6 hlt6;obtain⟨⟨e6',f6',r6'⟩,PW⟩:=PU (x:=Nd.zero) (b:=none) (cap:=0) (L:=w4.heap.size) (B:=w4.heap.size) (Nat.le_refl _) (Nat.le_refl _) ⟨Nat.le_refl _,ax6 _ _ _ _ _⟩ hown6 hgrow6 hat6 hlt6;have e6:w6.cell? ⟨r,2,none⟩=some (.slice ba ma ca):=e6';have f6:w6.frozen? ⟨r,2,none⟩=false:=f6';have r6:r<w6.heap.size:=r6';clear e6' f6' r6')
    have HX2:Hid (LiX w r (.slice (some ⟨g7,0,none⟩) (ma+1) c7) (.slice bo mo co) (.slice bc mc cc) (A++ [Nd.zero]) O C gx V (w6.setCell ⟨r,2,none⟩ (.slice (some ⟨g7,0,none⟩) (ma+1) c7))):=hJ (PW (.slice (some ⟨g7,0,none⟩) (ma+1) c7) (.slice bo mo co) (.slice bc mc cc) (A++ [Nd.zero]) O C (tri3 0 rfl rfl rfl) (tri3 0 rfl rfl rfl))
    clear PW PU OW e6 f6 r6 hown6 hgrow6 hat6 hlt6 HX
    clear s0 s1 s2 t0 t1 t2 l0 l1 l2 x0 x1 x2 x3 x4 lx
    generalize World.setCell w6 _ _=w15 at*
    have HX:=HX2
    clear HX2
    obtain⟨⟨s0,s1,s2⟩,⟨t0,t1,t2⟩,⟨l0,l1,l2⟩,⟨x0,x1,x2,x3,x4⟩,lx⟩:=HX.out.fs
    go_upto_region 20 with fail
    obtain⟨cs,OW,PU⟩:=HX.out.own (w1:=(w15.alloc (.cells #[.int .i64 1,.string V,.slice none 0 0,.int .i64 0,.int .i64 0] 26))) 1 (by decide) (m:=mo) HMO.out (ad3 _ _)
    go_wp2_with (at_builtin;refine wpList_append_lies (w:=_) (by rfl) _ _ _ (by rfl) 0 26 i0 _ 5 64 (by kernel_rfl) hi hz0 hz1 hz2 (by rfl) (by decide) (.slice bo mo co) mo cs (by rfl) (OW.alloc _) ⟨w15.heap.size+1,0,none⟩ 1 1 [.int .i64 13,.string ⟨#[115,104,111,114,116]⟩,.slice (some ⟨w15.heap.size,0,none⟩) 1 1,.int .i64 0,.int .i64 0] (by rfl) (by rfl) (World.news_of_block (ag6 (by simp))) ar3 (by decide) (by unfold maxLen;omega) (by omega) (Nat.zero_le _) (w15.heap.size+1+1) (by simp) ?_;intro g8 c8 w6 hown6 hgrow6 hat6 hlt6;obtain⟨⟨e6',f6',r6'⟩,PW⟩:=PU (x:=(Nd.mk 13 ⟨#[115,104,111,114,116]⟩ [.mk 1 V [] 0 0] 0 0)) (b:=some ⟨w15.heap.size,0,none⟩) (cap:=1) (L:=w15.heap.size) (B:=w15.heap.size+1) (Nat.le_refl _) (by rw [World.size_alloc];exact Nat.le_refl _) ⟨Nat.le_refl _,aK6 (n:= .mk 1 V [] 0 0) rfl⟩ hown6 hgrow6 (by rw [World.size_alloc];exact hat6) hlt6;have e6:w6.cell? ⟨r+1,2,none⟩=some (.slice bo mo co):=e6';have f6:w6.frozen? ⟨r+1,2,none⟩=false:=f6';have r6:r+1<w6.heap.size:=r6';clear e6' f6' r6')
    have HX2:Hid (LiX w r (.slice (some ⟨g7,0,none⟩) (ma+1) c7) (.slice (some ⟨g8,0,none⟩) (mo+1) c8) (.slice bc mc cc) (A++ [Nd.zero]) (O++ [(Nd.mk 13 ⟨#[115,104,111,114,116]⟩ [.mk 1 V [] 0 0] 0 0)]) C gx V (w6.setCell ⟨r+1,2,none⟩ (.slice (some ⟨g8,0,none⟩) (mo+1) c8))):=hJ (PW (.slice (some ⟨g7,0,none⟩) (ma+1) c7) (.slice (some ⟨g8,0,none⟩) (mo+1) c8) (.slice bc mc cc) (A++ [Nd.zero]) (O++ [(Nd.mk 13 ⟨#[115,104,111,114,116]⟩ [.mk 1 V [] 0 0] 0 0)]) C (tri3 1 rfl rfl rfl) (tri3 1 rfl rfl rfl))
    replace HX:=HX2
    obtain⟨tp,hst⟩:=HX.out.st
    have hA9:arrN (0,dcl j)=(.zero):=by first|(rw [HVV.out];rfl)|rfl
    have hO9:objN (0,dcl j)=(.mk 13 ⟨#[115,104,111,114,116]⟩ [.mk 1 V [] 0 0] 0 0):=by first|(rw [HVV.out];rfl)|rfl
    have hC9:C=if ((0,dcl j):Li).1=0 then C else C++ [spN (0,dcl j)]:=by first|(rw [HVV.out];rfl)|rfl
    refine⟨bb1.more (0,dcl j) HR.out hlt hlt40 HDL.out (by go_num) (by simp [ByteArray.data_append,arrI]) (by simp [ByteArray.data_append,HVD.out,objI]) (by simp [argI]) hC9 (by rw [hA9,hO9];exact hst),?_⟩
    simp [intOf]
    omega
   ·have ha':(IntKind.u64.wrap z).tmod 3=1:=by rw [ha,h];rfl
    clear ha h ha2
    have a0:=fun W=>ag7 (a:=S) (b:=⟨#[46,46,46]⟩) (by (try simp only [ByteArray.size_append]);show S.size+3≤1000;omega) W
    have a1:=fun W=>ag7 (a:=S++⟨#[46,46,46]⟩) (b:=V) (by (try simp only [ByteArray.size_append]);show S.size+3+V.size≤1000;omega) W
    have a2:=fun W=>ag7 (a:=S++⟨#[46,46,46]⟩++V) (b:=⟨#[44]⟩) (by (try simp only [ByteArray.size_append]);show S.size+3+V.size+1≤1000;omega) W
    have a3:=fun W=>ag7 (a:=T) (b:=⟨#[46,46,46]⟩) (by (try simp only [ByteArray.size_append]);show T.size+3≤1000;omega) W
    have a4:=fun W=>ag7 (a:=T++⟨#[46,46,46]⟩) (b:=V) (by (try simp only [ByteArray.size_append]);show T.size+3+V.size≤1000;omega) W
    have a5:=fun W=>ag7 (a:=T++⟨#[46,46,46]⟩++V) (b:=⟨#[44]⟩) (by (try simp only [ByteArray.size_append]);show T.size+3+V.size+1≤1000;omega) W
    have a6:=fun W=>ag7 (a:=U) (b:=⟨#[46,46,46]⟩) (by (try simp only [ByteArray.size_append]);show U.size+3≤1000;omega) W
    have a7:=fun W=>ag7 (a:=U++⟨#[46,46,46]⟩) (b:=V) (by (try simp only [ByteArray.size_append]);show U.size+3+V.size≤1000;omega) W
    have a8:=fun W=>ag7 (a:=U++⟨#[46,46,46]⟩++V) (b:=⟨#[44]⟩) (by (try simp only [ByteArray.size_append]);show U.size+3+V.size+1≤1000;omega) W
    go_upto_region 23 with fail
    obtain⟨cs,OW,PU⟩:=HX.out.own (w1:=(w4.alloc (.cells #[.int .i64 1,.string V,.slice none 0 0,.int .i64 0,.int .i64 0] 26))) 0 (by decide) (m:=ma) HMA.out (ad3 _ _)
    go_upto_region 24 with (at_builtin;refine wpList_append_lies (w:=_) (by rfl) _ _ _ (by rfl) 0 26 i0 _ 5 64 (by kernel_rfl) hi hz0 hz1 hz2 (by rfl) (by decide) (.slice ba ma ca) ma cs (by rfl) (OW.alloc _) ⟨w4.heap.size+1,0,none⟩ 1 1 [.int .i64 18,.string ⟨#[]⟩,.slice (some ⟨w4.heap.size,0,none⟩) 1 1,.int .i64 0,.int .i64 0] (by rfl) (by rfl) (World.news_of_block (ag6 (by simp))) ar3 (by decide) (by unfold maxLen;omega) (by omega) (Nat.zero_le _) (w4.heap.size+1+1) (by simp) ?_;intro g7 c7 w6 hown6 hgrow6 hat6 hlt6;obtain⟨⟨e6',f6',r6'⟩,PW⟩:=PU (x:=(Nd.mk 18 ⟨#[]⟩ [.mk 1 V [] 0 0] 0 0)) (b:=some ⟨w4.heap.size,0,none⟩) (cap:=1) (L:=w4.heap.size) (B:=w4.heap.size+1) (Nat.le_refl _) (by rw [World.size_alloc];exact Nat.le_refl _) ⟨Nat.le_refl _,aK6 (n:= .mk 1 V [] 0 0) rfl⟩ hown6 hgrow6 (by rw [World.size_alloc];exact hat6) hlt6;have e6:w6.cell? ⟨r,2,none⟩=some (.slice ba ma ca):=e6';have f6:w6.frozen? ⟨r,2,none⟩=false:=f6';have r6:r<w6.heap.size:=r6';clear e6' f6' r6')
    have HX2:Hid (LiX w r (.slice (some ⟨g7,0,none⟩) (ma+1) c7) (.slice bo mo co) (.slice bc mc cc) (A++ [(Nd.mk 18 ⟨#[]⟩ [.mk 1 V [] 0 0] 0 0)]) O C gx V (w6.setCell ⟨r,2,none⟩ (.slice (some ⟨g7,0,none⟩) (ma+1) c7))):=hJ (PW (.slice (some ⟨g7,0,none⟩) (ma+1) c7) (.slice bo mo co) (.slice bc mc cc) (A++ [(Nd.mk 18 ⟨#[]⟩ [.mk 1 V [] 0 0] 0 0)]) O C (tri3 0 rfl rfl rfl) (tri3 0 rfl rfl rfl))
    clear PW PU OW e6 f6 r6 hown6 hgrow6 hat6 hlt6 HX
    clear s0 s1 s2 t0 t1 t2 l0 l1 l2 x0 x1 x2 x3 x4 lx
    generalize World.setCell w6 _ _=w15 at*
    have HX:=HX2
    clear HX2
    obtain⟨⟨s0,s1,s2⟩,⟨t0,t1,t2⟩,⟨l0,l1,l2⟩,⟨x0,x1,x2,x3,x4⟩,lx⟩:=HX.out.fs
    go_upto_region 25 with fail
    obtain⟨cs,OW,PU⟩:=HX.out.own (w1:=(w15.alloc (.cells #[.int .i64 1,.string V,.slice none 0 0,.int .i64 0,.int .i64 0] 26))) 1 (by decide) (m:=mo) HMO.out (ad3 _ _)
    go_upto_region 26 with (at_builtin;refine wpList_append_lies (w:=_) (by rfl) _ _ _ (by rfl) 0 26 i0 _ 5 64 (by kernel_rfl) hi hz0 hz1 hz2 (by rfl) (by decide) (.slice bo mo co) mo cs (by rfl) (OW.alloc _) ⟨w15.heap.size+1,0,none⟩ 1 1 [.int .i64 18,.string ⟨#[]⟩,.slice (some ⟨w15.heap.size,0,none⟩) 1 1,.int .i64 0,.int .i64 0] (by rfl) (by rfl) (World.news_of_block (ag6 (by simp))) ar3 (by decide) (by unfold maxLen;omega) (by omega) (Nat.zero_le _) (w15.heap.size+1+1) (by simp) ?_;intro g8 c8 w6 hown6 hgrow6 hat6 hlt6;obtain⟨⟨e6',f6',r6'⟩,PW⟩:=PU (x:=(Nd.mk 18 ⟨#[]⟩ [.mk 1 V [] 0 0] 0 0)) (b:=some ⟨w15.heap.size,0,none⟩) (cap:=1) (L:=w15.heap.size) (B:=w15.heap.size+1) (Nat.le_refl _) (by rw [World.size_alloc];exact Nat.le_refl _) ⟨Nat.le_refl _,aK6 (n:= .mk 1 V [] 0 0) rfl⟩ hown6 hgrow6 (by rw [World.size_alloc];exact hat6) hlt6;have e6:w6.cell? ⟨r+1,2,none⟩=some (.slice bo mo co):=e6';have f6:w6.frozen? ⟨r+1,2,none⟩=false:=f6';have r6:r+1<w6.heap.size:=r6';clear e6' f6' r6')
    have HX2:Hid (LiX w r (.slice (some ⟨g7,0,none⟩) (ma+1) c7) (.slice (some ⟨g8,0,none⟩) (mo+1) c8) (.slice bc mc cc) (A++ [(Nd.mk 18 ⟨#[]⟩ [.mk 1 V [] 0 0] 0 0)]) (O++ [(Nd.mk 18 ⟨#[]⟩ [.mk 1 V [] 0 0] 0 0)]) C gx V (w6.setCell ⟨r+1,2,none⟩ (.slice (some ⟨g8,0,none⟩) (mo+1) c8))):=hJ (PW (.slice (some ⟨g7,0,none⟩) (ma+1) c7) (.slice (some ⟨g8,0,none⟩) (mo+1) c8) (.slice bc mc cc) (A++ [(Nd.mk 18 ⟨#[]⟩ [.mk 1 V [] 0 0] 0 0)]) (O++ [(Nd.mk 18 ⟨#[]⟩ [.mk 1 V [] 0 0] 0 0)]) C (tri3 1 rfl rfl rfl) (tri3 1 rfl rfl rfl))
    clear PW PU OW e6 f6 r6 hown6 hgrow6 hat6 hlt6 HX
    clear s0 s1 s2 t0 t1 t2 l0 l1 l2 x0 x1 x2 x3 x4 lx
    generalize World.setCell w6 _ _=w16 at*
    have HX:=HX2
    clear HX2
    obtain⟨⟨s0,s1,s2⟩,⟨t0,t1,t2⟩,⟨l0,l1,l2⟩,⟨x0,x1,x2,x3,x4⟩,lx⟩:=HX.out.fs
    go_upto_region 27 with fail
    obtain⟨cs,OW,PU⟩:=HX.out.own (w1:=(w16.alloc (.cells #[.int .i64 1,.string V,.slice none 0 0,.int .i64 0,.int .i64 0] 26))) 2 (by decide) (m:=mc) HMC.out (ad3 _ _)
    go_wp2_with (at_builtin;refine wpList_append_lies (w:=_) (by rfl) _ _ _ (by rfl) 0 26 i0 _ 5 64 (by kernel_rfl) hi hz0 hz1 hz2 (by rfl) (by decide) (.slice bc mc cc) mc cs (by rfl) (OW.alloc _) ⟨w16.heap.size+1,0,none⟩ 1 1 [.int .i64 18,.string ⟨#[]⟩,.slice (some ⟨w16.heap.size,0,none⟩) 1 1,.int .i64 0,.int .i64 0] (by rfl) (by rfl) (World.news_of_block (ag6 (by simp))) ar3 (by decide) (by unfold maxLen;omega) (by omega) (Nat.zero_le _) (w16.heap.size+1+1) (by simp) ?_;intro g9 c9 w6 hown6 hgrow6 hat6 hlt6;obtain⟨⟨e6',f6',r6'⟩,PW⟩:=PU (x:=(Nd.mk 18 ⟨#[]⟩ [.mk 1 V [] 0 0] 0 0)) (b:=some ⟨w16.heap.size,0,none⟩) (cap:=1) (L:=w16.heap.size) (B:=w16.heap.size+1) (Nat.le_refl _) (by rw [World.size_alloc];exact Nat.le_refl _) ⟨Nat.le_refl _,aK6 (n:= .mk 1 V [] 0 0) rfl⟩ hown6 hgrow6 (by rw [World.size_alloc];exact hat6) hlt6;have e6:w6.cell? ⟨r+1+1,2,none⟩=some (.slice bc mc cc):=e6';have f6:w6.frozen? ⟨r+1+1,2,none⟩=false:=f6';have r6:r+1+1<w6.heap.size:=r6';clear e6' f6' r6')
    have HX2:Hid (LiX w r (.slice (some ⟨g7,0,none⟩) (ma+1) c7) (.slice (some ⟨g8,0,none⟩) (mo+1) c8) (.slice (some ⟨g9,0,none⟩) (mc+1) c9) (A++ [(Nd.mk 18 ⟨#[]⟩ [.mk 1 V [] 0 0] 0 0)]) (O++ [(Nd.mk 18 ⟨#[]⟩ [.mk 1 V [] 0 0] 0 0)]) (C++ [(Nd.mk 18 ⟨#[]⟩ [.mk 1 V [] 0 0] 0 0)]) gx V (w6.setCell ⟨r+1+1,2,none⟩ (.slice (some ⟨g9,0,none⟩) (mc+1) c9))):=hJ (PW (.slice (some ⟨g7,0,none⟩) (ma+1) c7) (.slice (some ⟨g8,0,none⟩) (mo+1) c8) (.slice (some ⟨g9,0,none⟩) (mc+1) c9) (A++ [(Nd.mk 18 ⟨#[]⟩ [.mk 1 V [] 0 0] 0 0)]) (O++ [(Nd.mk 18 ⟨#[]⟩ [.mk 1 V [] 0 0] 0 0)]) (C++ [(Nd.mk 18 ⟨#[]⟩ [.mk 1 V [] 0 0] 0 0)]) (tri3 2 rfl rfl rfl) (tri3 2 rfl rfl rfl))
    replace HX:=HX2
    obtain⟨tp,hst⟩:=HX.out.st
    have hA9:arrN (1,dcl j)=(.mk 18 ⟨#[]⟩ [.mk 1 V [] 0 0] 0 0):=by first|(rw [HVV.out];rfl)|rfl
    have hO9:objN (1,dcl j)=(.mk 18 ⟨#[]⟩ [.mk 1 V [] 0 0] 0 0):=by first|(rw [HVV.out];rfl)|rfl
    have hC9:(C++ [.mk 18 ⟨#[]⟩ [.mk 1 V [] 0 0] 0 0])=if ((1,dcl j):Li).1=0 then C else C++ [spN (1,dcl j)]:=by first|(rw [HVV.out];rfl)|rfl
    refine⟨bb1.more (1,dcl j) HR.out hlt hlt40 HDL.out (by go_num) (by simp [ByteArray.data_append,HVD.out,arrI,spI]) (by simp [ByteArray.data_append,HVD.out,objI,spI]) (by simp [ByteArray.data_append,HVD.out,argI,spI]) hC9 (by rw [hA9,hO9];exact hst),?_⟩
    simp [intOf]
    omega
   ·have ha':(IntKind.u64.wrap z).tmod 3=2:=by rw [ha,h];rfl
    clear ha h ha2
    have a0:=fun W=>ag7 (a:=S) (b:=V) (by (try simp only [ByteArray.size_append]);show S.size+V.size≤1000;omega) W
    have a1:=fun W=>ag7 (a:=S++V) (b:=⟨#[44]⟩) (by (try simp only [ByteArray.size_append]);show S.size+V.size+1≤1000;omega) W
    have a2:=fun W=>ag7 (a:=T) (b:=⟨#[105,102,58]⟩) (by (try simp only [ByteArray.size_append]);show T.size+3≤1000;omega) W
    have a3:=fun W=>ag7 (a:=T++⟨#[105,102,58]⟩) (b:=V) (by (try simp only [ByteArray.size_append]);show T.size+3+V.size≤1000;omega) W
    have a4:=fun W=>ag7 (a:=T++⟨#[105,102,58]⟩++V) (b:=⟨#[44]⟩) (by (try simp only [ByteArray.size_append]);show T.size+3+V.size+1≤1000;omega) W
    have a5:=fun W=>ag7 (a:=U) (b:=V) (by (try simp only [ByteArray.size_append]);show U.size+V.size≤1000;omega) W
    have a6:=fun W=>ag7 (a:=U++V) (b:=⟨#[44]⟩) (by (try simp only [ByteArray.size_append]);show U.size+V.size+1≤1000;omega) W
    go_upto_region 11 with fail
    obtain⟨cs,OW,PU⟩:=HX.out.own (w1:=w4) 0 (by decide) (m:=ma) HMA.out (Below.refl _ _)
    go_upto_region 12 with (at_builtin;refine wpList_append_lies (w:=_) (by rfl) _ _ _ (by rfl) 0 26 i0 _ 5 64 (by kernel_rfl) hi hz0 hz1 hz2 (by rfl) (by decide) (.slice ba ma ca) ma cs (by rfl) (OW.alloc _) ⟨w4.heap.size,0,none⟩ 1 1 [.int .i64 1,.string V,.slice none 0 0,.int .i64 0,.int .i64 0] (by rfl) (by rfl) (World.news_of_block (ag6 (by simp))) ar3 (by decide) (by unfold maxLen;omega) (by omega) (Nat.zero_le _) (w4.heap.size+1) (by simp) ?_;intro g7 c7 w6 hown6 hgrow6 hat6 hlt6;obtain⟨⟨e6',f6',r6'⟩,PW⟩:=PU (x:=(Nd.mk 1 V [] 0 0)) (b:=none) (cap:=0) (L:=w4.heap.size) (B:=w4.heap.size) (Nat.le_refl _) (Nat.le_refl _) ⟨Nat.le_refl _,ax6 _ _ _ _ _⟩ hown6 hgrow6 hat6 hlt6;have e6:w6.cell? ⟨r,2,none⟩=some (.slice ba ma ca):=e6';have f6:w6.frozen? ⟨r,2,none⟩=false:=f6';have r6:r<w6.heap.size:=r6';clear e6' f6' r6')
    have HX2:Hid (LiX w r (.slice (some ⟨g7,0,none⟩) (ma+1) c7) (.slice bo mo co) (.slice bc mc cc) (A++ [(Nd.mk 1 V [] 0 0)]) O C gx V (w6.setCell ⟨r,2,none⟩ (.slice (some ⟨g7,0,none⟩) (ma+1) c7))):=hJ (PW (.slice (some ⟨g7,0,none⟩) (ma+1) c7) (.slice bo mo co) (.slice bc mc cc) (A++ [(Nd.mk 1 V [] 0 0)]) O C (tri3 0 rfl rfl rfl) (tri3 0 rfl rfl rfl))
    clear PW PU OW e6 f6 r6 hown6 hgrow6 hat6 hlt6 HX
    clear s0 s1 s2 t0 t1 t2 l0 l1 l2 x0 x1 x2 x3 x4 lx
    generalize World.setCell w6 _ _=w15 at*
    have HX:=HX2
    clear HX2
    obtain⟨⟨s0,s1,s2⟩,⟨t0,t1,t2⟩,⟨l0,l1,l2⟩,⟨x0,x1,x2,x3,x4⟩,lx⟩:=HX.out.fs
    go_upto_region 13 with fail
    go_cut [] from 53 to 61 (fun wx=> ∃(g c:Nat),LiX w r (.slice (some ⟨g7,0,none⟩) (ma+1) c7) (.slice (some ⟨g,0,none⟩) (mo+1) c) (.slice bc mc cc) (A++ [(Nd.mk 1 V [] 0 0)]) (O++ [(.mk 13 ⟨#[]⟩ [.mk 1 ⟨#[105,102]⟩ [] 0 0,.mk 1 V [] 0 0] 0 0)]) C gx V wx)
    case first=>
     have HCALL:=hJ (fun(W:World) (hW:Below w15.heap.size w15 W)=>(aD2 ⟨#[105,102]⟩ W).mono (R':=fun e w'=>e= .returned (.agg #[.int .i64 1,.string ⟨#[105,102]⟩,.slice none 0 0,.int .i64 0,.int .i64 0])∧LiX w r (.slice (some ⟨g7,0,none⟩) (ma+1) c7) (.slice bo mo co) (.slice bc mc cc) (A++ [(Nd.mk 1 V [] 0 0)]) O C gx V w') fun e w' ⟨h1,h2⟩=>⟨h1,(HX.out.next hW).next h2⟩)
     go_region_law (first|((go_simp;(with_reducible refine(HCALL.out _ (Below.drew (Below.refl _ _))).mono ?_);rintro e w8 ⟨rfl,hx8⟩;have HX8:=hJ hx8;clear hx8;obtain⟨⟨s3,s4,s5⟩,⟨t3,t4,t5⟩,⟨l3,l4,l5⟩,⟨x5,x6,x7,x8,x9⟩,lx2⟩:=HX8.out.fs;obtain⟨cs,OW,PU⟩:=HX8.out.own (w1:=w8.alloc (.cells #[.int .i64 1,.string ⟨#[105,102]⟩,.slice none 0 0,.int .i64 0,.int .i64 0,.int .i64 1,.string V,.slice none 0 0,.int .i64 0,.int .i64 0] 26)) 1 (by decide) (m:=mo) HMO.out (ad3 _ _);have RV:RowV (w8.alloc (.cells #[.int .i64 1,.string ⟨#[105,102]⟩,.slice none 0 0,.int .i64 0,.int .i64 0,.int .i64 1,.string V,.slice none 0 0,.int .i64 0,.int .i64 0] 26)) w8.heap.size (w8.heap.size+1) (.mk 13 ⟨#[]⟩ [.mk 1 ⟨#[105,102]⟩ [] 0 0,.mk 1 V [] 0 0] 0 0) (some ⟨w8.heap.size,0,none⟩) 2:=⟨Nat.le_refl _,aI4 [.mk 1 ⟨#[105,102]⟩ [] 0 0,.mk 1 V [] 0 0] (fun n hn=>by simp only [List.mem_cons,List.not_mem_nil,or_false] at hn;rcases hn with rfl|rfl<;>rfl) (heap_alloc_new w8 _)⟩))|(refine step_append_lies _ (by rfl) _ _ _ (by rfl) 0 26 i0 _ 5 64 (by kernel_rfl) hi hz0 hz1 hz2 (by rfl) (by decide) (.slice bo mo co) mo cs (by rfl) (OW.alloc _) ⟨w8.heap.size+1,0,none⟩ 1 1 [.int .i64 13,.string ⟨#[]⟩,.slice (some ⟨w8.heap.size,0,none⟩) 2 2,.int .i64 0,.int .i64 0] (by rfl) (by rfl) (World.news_of_block (ag6 (by simp))) ar3 (by decide) (by unfold maxLen;omega) (by omega) (Nat.zero_le _) (w8.heap.size+1+1) (by simp) ?_;intro g8 c8 w6 hown6 hgrow6 hat6 hlt6;obtain⟨⟨e6',f6',r6'⟩,PW⟩:=PU (x:= .mk 13 ⟨#[]⟩ [.mk 1 ⟨#[105,102]⟩ [] 0 0,.mk 1 V [] 0 0] 0 0) (b:=some ⟨w8.heap.size,0,none⟩) (cap:=2) (L:=w8.heap.size) (B:=w8.heap.size+1) (Nat.le_refl _) (by rw [World.size_alloc];exact Nat.le_refl _) RV hown6 hgrow6 (by rw [World.size_alloc];exact hat6) hlt6;have e6:w6.cell? ⟨r+1,2,none⟩=some (.slice bo mo co):=e6';have f6:w6.frozen? ⟨r+1,2,none⟩=false:=f6';have r6:r+1<w6.heap.size:=r6';clear e6' f6' r6'))
     all_goals
      go_wp2_with fail
      go_meet
      exact⟨_,_,PW (.slice (some ⟨g7,0,none⟩) (ma+1) c7) _ (.slice bc mc cc) (A++ [(Nd.mk 1 V [] 0 0)]) _ C (tri3 1 rfl rfl rfl) (tri3 1 rfl rfl rfl)⟩
    case rest=>
     obtain⟨g8,c8,hx8⟩:=hcut
     have HX2:=hJ hx8
     clear hx8 HX
     clear s0 s1 s2 t0 t1 t2 l0 l1 l2 x0 x1 x2 x3 x4 lx
     generalize wc=w16 at*
     have HX:=HX2
     clear HX2
     obtain⟨⟨s0,s1,s2⟩,⟨t0,t1,t2⟩,⟨l0,l1,l2⟩,⟨x0,x1,x2,x3,x4⟩,lx⟩:=HX.out.fs
     go_upto_region 15 with fail
     obtain⟨cs,OW,PU⟩:=HX.out.own (w1:=w16) 2 (by decide) (m:=mc) HMC.out (Below.refl _ _)
     go_wp2_with (at_builtin;refine wpList_append_lies (w:=_) (by rfl) _ _ _ (by rfl) 0 26 i0 _ 5 64 (by kernel_rfl) hi hz0 hz1 hz2 (by rfl) (by decide) (.slice bc mc cc) mc cs (by rfl) (OW.alloc _) ⟨w16.heap.size,0,none⟩ 1 1 [.int .i64 1,.string V,.slice none 0 0,.int .i64 0,.int .i64 0] (by rfl) (by rfl) (World.news_of_block (ag6 (by simp))) ar3 (by decide) (by unfold maxLen;omega) (by omega) (Nat.zero_le _) (w16.heap.size+1) (by simp) ?_;intro g9 c9 w6 hown6 hgrow6 hat6 hlt6;obtain⟨⟨e6',f6',r6'⟩,PW⟩:=PU (x:=(Nd.mk 1 V [] 0 0)) (b:=none) (cap:=0) (L:=w16.heap.size) (B:=w16.heap.size) (Nat.le_refl _) (Nat.le_refl _) ⟨Nat.le_refl _,ax6 _ _ _ _ _⟩ hown6 hgrow6 hat6 hlt6;have e6:w6.cell? ⟨r+1+1,2,none⟩=some (.slice bc mc cc):=e6';have f6:w6.frozen? ⟨r+1+1,2,none⟩=false:=f6';have r6:r+1+1<w6.heap.size:=r6';clear e6' f6' r6')
     have HX2:Hid (LiX w r (.slice (some ⟨g7,0,none⟩) (ma+1) c7) (.slice (some ⟨g8,0,none⟩) (mo+1) c8) (.slice (some ⟨g9,0,none⟩) (mc+1) c9) (A++ [(Nd.mk 1 V [] 0 0)]) (O++ [(.mk 13 ⟨#[]⟩ [.mk 1 ⟨#[105,102]⟩ [] 0 0,.mk 1 V [] 0 0] 0 0)]) (C++ [(Nd.mk 1 V [] 0 0)]) gx V (w6.setCell ⟨r+1+1,2,none⟩ (.slice (some ⟨g9,0,none⟩) (mc+1) c9))):=hJ (PW (.slice (some ⟨g7,0,none⟩) (ma+1) c7) (.slice (some ⟨g8,0,none⟩) (mo+1) c8) (.slice (some ⟨g9,0,none⟩) (mc+1) c9) (A++ [(Nd.mk 1 V [] 0 0)]) (O++ [(.mk 13 ⟨#[]⟩ [.mk 1 ⟨#[105,102]⟩ [] 0 0,.mk 1 V [] 0 0] 0 0)]) (C++ [(Nd.mk 1 V [] 0 0)]) (tri3 2 rfl rfl rfl) (tri3 2 rfl rfl rfl))
     replace HX:=HX2
     obtain⟨tp,hst⟩:=HX.out.st
     have hA9:arrN (2,dcl j)=(.mk 1 V [] 0 0):=by first|(rw [HVV.out];rfl)|rfl
     have hO9:objN (2,dcl j)=(.mk 13 ⟨#[]⟩ [.mk 1 ⟨#[105,102]⟩ [] 0 0,.mk 1 V [] 0 0] 0 0):=by first|(rw [HVV.out];rfl)|rfl
     have hC9:(C++ [.mk 1 V [] 0 0])=if ((2,dcl j):Li).1=0 then C else C++ [spN (2,dcl j)]:=by first|(rw [HVV.out];rfl)|rfl
     refine⟨bb1.more (2,dcl j) HR.out hlt hlt40 HDL.out (by go_num) (by simp [ByteArray.data_append,HVD.out,arrI,spI]) (by simp [ByteArray.data_append,HVD.out,objI]) (by simp [ByteArray.data_append,HVD.out,argI,spI]) hC9 (by rw [hA9,hO9];exact hst),?_⟩
     simp [intOf]
     omega
  ·have hend:j=len∨(j=40∧40<len):=by omega
   have hn40:ls.length≤40:=by rw [hR.n];omega
   have hdg: ∀x ∈ ls,Dg x.2:=fun x hx=>(hR.dg x hx).1
   obtain⟨n1,q1,e1,b1,z1⟩:=bq2 (s:=S++⟨#[93]⟩) hn40 hdg (by rw [ByteArray.size_append];show S.size+1≤_;omega) (by simp [ByteArray.data_append,hR.hS])
   obtain⟨n2,q2,e2,b2,z2⟩:=bq3 (s:=T++⟨#[125,41]⟩) hn40 hdg (by rw [ByteArray.size_append];show T.size+2≤_;omega) (by simp [ByteArray.data_append,hR.hT])
   obtain⟨n3,q3,e3,b3,z3⟩:=bh8 (s:=U++⟨#[41]⟩) hn40 hdg (by rw [ByteArray.size_append];show U.size+1≤_;omega) (by simp [ByteArray.data_append,hR.hU])
   rw [←hR.ha] at b1
   rw [←hR.ho] at b2
   rw [←hR.hc] at b3
   have hT1:aj7 (ai3 n1) (.mk 11 ⟨#[]⟩ A 0 0)=true:=by rw [as5 (by omega),b1];exact av2 _
   have hT2:aj7 (ai3 n2) (.mk 12 ⟨#[]⟩ O 0 0)=true:=by rw [as5 (by omega),b2];exact av2 _
   have hT3:aj7 (ai3 n3) (.mk 35 ⟨#[]⟩ [.mk 1 ⟨#[102]⟩ [] 0 0,.mk 36 ⟨#[]⟩ C 0 0] 0 0)=true:=by rw [as5 (by omega),b3];exact av2 _
   have HI1:=hJ (fun(W:World) (h:LiSt w r (tri (.slice ba ma ca) (.slice bo mo co) (.slice bc mc cc)) (tri A O C) top W)=>by
    have h2:=aX3 80 (by decide) (by rw [ByteArray.size_append];show S.size+1≤_;omega) e1 (by omega) (by rw [as5 (by omega)];exact Nat.le_trans (aC2 n1) (by omega)) (.mk 11 ⟨#[]⟩ A 0 0) (.agg #[.int .i64 11,.string ⟨#[]⟩,.slice ba ma ca,.int .i64 0,.int .i64 0]) 0 W.heap.size W (by have h3:=h.nd 0 (by decide);exact h3) (Nat.le_refl _) (HX.out.bel h.bel)
    rw [hT1] at h2
    exact h2)
   have HI2:=hJ (fun(W:World) (h:LiSt w r (tri (.slice ba ma ca) (.slice bo mo co) (.slice bc mc cc)) (tri A O C) top W)=>by
    have h2:=aX3 80 (by decide) (by rw [ByteArray.size_append];show T.size+2≤_;omega) e2 (by omega) (by rw [as5 (by omega)];exact Nat.le_trans (aC2 n2) (by omega)) (.mk 12 ⟨#[]⟩ O 0 0) (.agg #[.int .i64 12,.string ⟨#[]⟩,.slice bo mo co,.int .i64 0,.int .i64 0]) 0 W.heap.size W (by have h3:=h.nd 1 (by decide);exact h3) (Nat.le_refl _) (HX.out.bel h.bel)
    rw [hT2] at h2
    exact h2)
   have HI3:=hJ (fun(W:World) (h:LiSt w r (tri (.slice ba ma ca) (.slice bo mo co) (.slice bc mc cc)) (tri A O C) top W)=>by
    have h2:=aX3 80 (by decide) (by rw [ByteArray.size_append];show U.size+1≤_;omega) e3 (by omega) (by rw [as5 (by omega)];exact Nat.le_trans (aC2 n3) (by omega)) (.mk 35 ⟨#[]⟩ [.mk 1 ⟨#[102]⟩ [] 0 0,.mk 36 ⟨#[]⟩ C 0 0] 0 0) (.agg #[.int .i64 35,.string ⟨#[]⟩,.slice (some ⟨W.heap.size,0,none⟩) 2 2,.int .i64 0,.int .i64 0]) 0 (W.heap.size+1) (W.alloc (.cells #[.int .i64 1,.string ⟨#[102]⟩,.slice none 0 0,.int .i64 0,.int .i64 0,.int .i64 36,.string ⟨#[]⟩,.slice bc mc cc,.int .i64 0,.int .i64 0] 26)) (LiSt.call h HMC.out) (by rw [World.size_alloc];exact Nat.le_refl _) (HX.out.bel (aa7 h.bel (ad3 W _)))
    rw [hT3] at h2
    exact h2)
   clear e1 e2 e3 b1 b2 b3 z1 z2 z3 hT1 hT2 hT3 hR HC hdg HR
   rcases hend with rfl|⟨rfl,hl40⟩
   all_goals
    go_upto_region 28 with fail
    have HD:=hJ (HST.out.next (Below.drew (Below.refl _ _)))
    clear HST
    have a1:=fun W=>ag7 (a:=S) (b:=⟨#[93]⟩) (show S.size+1≤1000 by omega) W
    have a2:=fun W=>ag7 (a:=T) (b:=⟨#[125,41]⟩) (show T.size+2≤1000 by omega) W
    have a3:=fun W=>ag7 (a:=U) (b:=⟨#[41]⟩) (show U.size+1≤1000 by omega) W
    go_region_held3 (fun W=>(W.cell? ⟨r,0,none⟩=some (.int .i64 11)∧W.cell? ⟨r,1,none⟩=some (.string ⟨#[]⟩)∧W.cell? ⟨r,2,none⟩=some (.slice ba ma ca)∧W.cell? ⟨r,3,none⟩=some (.int .i64 0)∧W.cell? ⟨r,4,none⟩=some (.int .i64 0))∧(W.cell? ⟨r+1,0,none⟩=some (.int .i64 12)∧W.cell? ⟨r+1,1,none⟩=some (.string ⟨#[]⟩)∧W.cell? ⟨r+1,2,none⟩=some (.slice bo mo co)∧W.cell? ⟨r+1,3,none⟩=some (.int .i64 0)∧W.cell? ⟨r+1,4,none⟩=some (.int .i64 0))∧(W.cell? ⟨r+1+1,0,none⟩=some (.int .i64 36)∧W.cell? ⟨r+1+1,1,none⟩=some (.string ⟨#[]⟩)∧W.cell? ⟨r+1+1,2,none⟩=some (.slice bc mc cc)∧W.cell? ⟨r+1+1,3,none⟩=some (.int .i64 0)∧W.cell? ⟨r+1+1,4,none⟩=some (.int .i64 0))) (first|exact LiSt.cells3 HD.out|exact LiSt.cells3 (HD.out.next (ad3 _ _)))
     (first|(go_at_call 6;refine(aD2 ⟨#[102]⟩ _).mono ?_;rintro e w9 ⟨rfl,hb9⟩;replace HD:=hJ (HD.out.next hb9);clear hb9)|(go_at_call 8;(with_reducible refine(HI1.out _ HD.out).mono ?_);rintro e w9 ⟨rfl,hb9⟩;replace HD:=hJ (HD.out.next hb9);clear hb9)|(go_at_call 8;(with_reducible refine(HI2.out _ HD.out).mono ?_);rintro e w9 ⟨rfl,hb9⟩;replace HD:=hJ (HD.out.next hb9);clear hb9)|(go_at_call 8;have hh:=HI3.out _ HD.out;refine hh.mono ?_;clear hh;rintro e w10 ⟨rfl,hb9⟩;replace HD:=hJ (HD.out.next (aa7 (ad3 _ _) hb9));clear hb9))
    all_goals
     go_wp2_with fail
     go_ret
     exact⟨rfl,HD.out.bel⟩
end
end Go.Proofs.YtcgbkjhoifhnnaaGreatDoor
