/- Steps (Rb Rc Rd Rf). Conditions: as stated. -/
import Derived.Test.YtnobjeelihkjmaaGreatDoorZk05
import Derived.Test.YtnobjeelihkjmaaGreatDoorZk08
import Derived.Test.YtnobjeelihkjmaaGreatDoorZk11
set_option maxHeartbeats 4000000
set_option maxRecDepth 100000
namespace Go.Proofs.YtnobjeelihkjmaaGreatDoor
section
open Go.RowKit
theorem bm8 (n:Nd):aw3 n=(!(decide (n.kind=13) && bj5 n.kids) && aE4 n.kids):=by cases n;rw [aw3];rfl
theorem aE5 {x:Nd} : ∀ {ks:List Nd},aE4 ks=true→x ∈ ks→aw3 x=true
 |k::ks,h,hx=>by
  rw [aE4,Bool.and_eq_true] at h
  rcases List.mem_cons.1 hx with rfl|hx
  ·exact h.1
  ·exact aE5 h.2 hx
def ar2:List Pl→List Value
 | []=> []
 |p::ps=>ar2 ps++ [.pointer (some p.2.1)]
theorem ap2: ∀ps:List Pl,(ar2 ps).length=ps.length*1
 | []=>rfl
 |p::ps=>by rw [ar2,List.length_append,ap2 ps];simp
theorem bJ1 (a:Option Addr): ∀y ∈ ([.pointer a]:List Value),y.oneCell'=true:=by
 intro y hy
 simp only [List.mem_cons,List.not_mem_nil,or_false] at hy
 rcases hy with rfl
 rfl
theorem bE5:(Tryz.prog.info? 53).map (fun i=>(i.zero,i.size,i.bytes))=some (some (.pointer none),1,8):=by kernel_rfl
theorem Below.drewN' {B:Nat} {a b:World} (h:Below B a b): ∀n,Below B a (b.drewN n):=fun _=>⟨h.os,h.tape,h.output,h.size,h.block⟩
structure LfS (w:World) (n:Nd) (L B:Nat) (st:List Pl) (v:Value) (wr:World):Prop where
 many:plN st≤aa4 n
 ok:PlOk w L B st
 np: ∀p ∈ st,aw3 p.2.2=true
 row:wr.ownsRow w.heap.size 53 1 v st.length (ar2 st)
 bel:Below w.heap.size w wr
structure LfI (w:World) (ga oa:Nat) (t:Nd) (b:Option Addr) (rest:List Pl) (cap2 j:Nat) (v:Value) (wr:World):Prop where
 row:wr.ownsRow w.heap.size 53 1 v (ai1 0 b (t.kids.drop j) j++rest).length (ar2 (ai1 0 b (t.kids.drop j) j++rest))
 bel:Below w.heap.size w wr
 cell:wr.cell? ⟨ga,oa+2,none⟩=some (.slice b t.kids.length cap2)
attribute [local go_sem] Oper.semAt_some
theorem bt8 (n:Nd) (g o L B:Nat) (u:Value) (w:World) (hn:NdC w L B n g o) (hB:B≤w.heap.size) (hsz:aa4 n≤4194304) (hnp:aw3 n=true):
  Calls Tryz.prog 24 #[u,.pointer (some ⟨g,o,none⟩)] w fun e w'=>e= .returned (.tuple #[])∧Below w.heap.size w w':=by
 have HST:=hJ (show LfS w n L B [(0,⟨g,o,none⟩,n)] (.slice (some ⟨w.heap.size,0,none⟩) 1 1) (w.alloc (.cells #[.pointer (some ⟨g,o,none⟩)] 53)) from
  ⟨by rw [plN,plN];simp,PlOk.one hn,(fun p hp=>by
   rcases List.mem_cons.1 hp with rfl|hp
   ·exact hnp
   ·cases hp),World.ownsRow_lit w #[.pointer (some ⟨g,o,none⟩)] 1 (Nat.le_refl _) (by decide) rfl,Below.alloc (Below.refl _ _) (Nat.le_refl _) _⟩)
 obtain⟨i0,hi,hz0,hz1,hz2⟩:=info_parts bE5
 clear hn hnp
 go_enter Tryz.func24,Tryz.ntmps24
 go_wp2_with fail
 go_loopg [4] (aa4 n) (fun s v wr=> ∃st:List Pl,plN st≤s∧LfS w n L B st v wr)
 case atStart=>exact⟨_,by rw [plN,plN,Nat.add_zero];exact Nat.le_refl _,HST.out⟩
 case round=>
  clear HST
  obtain⟨st,hs,hst⟩:=hrel
  have HS:=hJ hs
  clear hs
  cases st with
  |nil=>
   have HST:=hJ hst
   obtain⟨b,cap,rfl⟩:=au1 hst.row
   clear hst
   go_wp2_with fail
   exact bodyPost_end (results_none rfl _ _ _) rfl ⟨rfl,HST.out.bel⟩
  |cons x rest=>
   obtain⟨d,a,t⟩:=x
   obtain⟨g1,cap1,rfl,hg1,hg1w,hn1⟩:=aA0 hst.row (Nat.succ_pos _)
   obtain⟨⟨ga,oa,ha,hna⟩,hok⟩:=hst.ok.head
   simp only at ha hna
   subst ha
   have c0:wr.cell? ⟨g1,rest.length,none⟩=some (.pointer (some ⟨ga,oa,none⟩)):=by
    have:=hst.row.cellAt rest.length (by simp)
    rw [this,ar2,List.getElem?_append_right (by rw [ap2];omega),ap2,Nat.mul_one,Nat.sub_self];rfl
   have HROW:=hJ (aE8 hst.row (ap2 rest))
   have HST:=hJ hst
   have HOK:=hJ hok
   have hrl:rest.length≤4194304:=by have:=hst.many;have:=bm0 rest;rw [plN] at*;omega
   have htc:=aw0 t
   have hts:aa4 t≤4194304:=by have:=hst.many;simp only [plN] at this;omega
   have hna2:=aB3 (w':=wr) (Nat.le_refl _) (Nat.le_refl _) (fun k _ h2=>hst.bel.block k (by omega)) _ _ _ hna
   rw [ai9] at hna2
   obtain⟨b2,cap2,_,hgaB,k0,_,k2,_,_,hcap2,hrow2⟩:=hna2
   have hgw:ga<wr.heap.size:=Nat.lt_of_lt_of_le (by omega) hst.bel.size
   have hnt:=hst.np _ (.head _)
   have HNT:=hJ hnt
   dsimp only at hnt
   rw [bm8,Bool.and_eq_true] at hnt
   have hcase:(t.kind==13)=false∨((t.kind==13)=true∧((t.kids.length:Int)==1)=false)∨((t.kind==13)=true∧((t.kids.length:Int)==1)=true∧(0:Int)<(t.kids.length:Int)∧∃g off k,b2=some ⟨g,off,none⟩∧g<wr.heap.size∧wr.cell? ⟨g,off,none⟩=some (.int .i64 k)∧(k==45)=false):=by
    by_cases h13:t.kind=13
    ·by_cases hl1:t.kids.length=1
     ·refine .inr (.inr ⟨by simpa using h13,by simp [hl1],by omega,?_⟩)
      obtain⟨g,off,hb,hx⟩:=af0 hrow2 0 (by omega)
      rw [ai9] at hx
      obtain⟨_,_,_,hgB,c0',_⟩:=hx
      refine⟨g,off,_,hb,Nat.lt_of_lt_of_le (by omega) hst.bel.size,by simpa using c0',?_⟩
      have h2:=hnt.1
      rw [h13] at h2
      obtain⟨x,hx1⟩:=List.length_eq_one_iff.1 hl1
      rw [hx1] at h2
      have h3:(x.kind==45)=false:=by simpa [bj5] using h2
      simpa [hx1] using h3
     ·exact .inr (.inl ⟨by simpa using h13,by simp;omega⟩)
    ·exact .inl (by simpa using h13)
   have HKS:=hJ hnt.2
   have n1:IntKind.i64.wrap (((rest.length+1:Nat):Int) - 1)=(rest.length:Int):=by rw [IntKind.wrap_i64];omega
   have n2:((rest.length+1:Nat):Int) - 1=(rest.length:Int):=by omega
   have n3:IntKind.i64.wrap ((rest.length:Int)+1 - 1)=(rest.length:Int):=by rw [IntKind.wrap_i64];omega
   have n4:(rest.length:Int)+1 - 1=(rest.length:Int):=by omega
   have n5:IntKind.i64.wrap (rest.length:Int)=(rest.length:Int):=by rw [IntKind.wrap_i64];omega
   have n6:(0:Int)≤(rest.length:Int):=by omega
   have n7:(rest.length:Int)<(rest.length:Int)+1:=by omega
   have n8:(rest.length:Int)<((rest.length+1:Nat):Int):=by omega
   have m1:IntKind.i64.wrap ((t.kids.length:Int) - 1)=(t.kids.length:Int) - 1:=by rw [IntKind.wrap_i64];omega
   have HPK:=hJ (fun i=>PlOk.kids (d:=0) (ag9 (w':=w) (Nat.le_refl _) (Nat.le_refl _) (fun k h1 h2=>(hst.bel.block k (by omega)).symm) hrow2) i)
   have HRB:=hJ (show∀i,i<t.kids.length→∃g off,b2=some ⟨g,off,none⟩ from fun i hi=>by obtain⟨g,off,e,_⟩:=af0 hrow2 i hi;exact⟨g,off,e⟩)
   have hgaW:ga<w.heap.size:=by omega
   have HIN:=hJ (fun k=>show LfI w ga oa t b2 rest cap2 t.kids.length (.slice (some ⟨g1,0,none⟩) rest.length cap1) (wr.drewN k) from
    ⟨by rw [List.drop_length,ai1,List.nil_append];exact HROW.out,(Below.drewN' hst.bel k),k2⟩)
   simp only [List.length_cons] at hn1⊢
   clear hst hna hok hrow2 hnt
   rcases hcase with hk13|⟨hk13,hl1⟩|⟨hk13,hl1,h01,g3,off3,k3,hb3,hg3,hc3,hk45⟩
   all_goals
    go_upto_region 2 with fail
    go_quiet (fail)
    go_wp2_with fail
    replace HIN:=hJ (HIN.out nq)
    generalize hwo:wr.drewN nq=wo at*
    clear hwo c0 k0 k2 hgw
    (try clear hb3 hg3 hc3)
    go_loopg [4,5] t.kids.length (fun j v i wr=>j≤t.kids.length∧i= .int .i64 ((j:Int) - 1)∧LfI w ga oa t b2 rest cap2 j v wr)
    case atStart=>exact⟨Nat.le_refl _,rfl,HIN.out⟩
    case round=>
     clear HIN
     obtain⟨hj,rfl,hin⟩:=hrel
     have HIN:=hJ hin
     cases gk with
     |zero=>
      have e0:(((0:Nat):Int) - 1)= -1:=rfl
      rw [e0]
      clear e0 hin
      go_wp2_with fail
      go_roundg (plN (ai1 0 b2 t.kids 0++rest))
      case measure=>have h1:=HS.out;rw [ao1,aw7];have h2:=ac6 t;simp only [plN] at h1;omega
      case rel=>
       refine⟨ai1 0 b2 t.kids 0++rest,Nat.le_refl _,?_,(HPK.out 0).append HOK.out,?_,HIN.out.row,HIN.out.bel⟩
       ·have:=HST.out.many
        have e1:plN ((d,⟨ga,oa,none⟩,t)::rest)=aa4 t+plN rest:=rfl
        have e2:=ac6 t
        rw [ao1,aw7]
        omega
       ·intro p hp
        rcases List.mem_append.1 hp with hp|hp
        ·obtain⟨x,hx,e1,e2⟩:=aD7 hp
         rw [e2]
         exact aE5 HKS.out hx
        ·exact HST.out.np p (.tail _ hp)
     |succ i=>
      have e0:(((i+1:Nat):Int) - 1)=i:=by omega
      rw [e0]
      clear e0
      obtain⟨gk2,offk,hb2⟩:=HRB.out i (by omega)
      subst hb2
      have HKD:=hJ (ay5 0 (some ⟨gk2,offk,none⟩) t.kids i (by omega))
      generalize hSd:ai1 0 (some ⟨gk2,offk,none⟩) (t.kids.drop (i+1)) (i+1)++rest=S at*
      have hSl:S.length≤8388608:=by rw [←hSd,List.length_append,aD6,List.length_drop];omega
      have HSD:=hJ hSd
      have hrow:=hin.row
      rw [hSd] at hrow
      have HOWN:=hJ hrow
      have hww:=hin.bel.size
      have k2:=hin.cell
      have hgw3:ga<wr.heap.size:=Nat.lt_of_lt_of_le hgaW hww
      have hil:i<t.kids.length:=by omega
      have i1:(0:Int)≤(i:Int):=by omega
      have i2:(i:Int)<(t.kids.length:Int):=by omega
      have i3:IntKind.i64.wrap ((i:Int) - 1)=(i:Int) - 1:=by rw [IntKind.wrap_i64];omega
      clear hin hSd hrow
      go_wp2_with (at_builtin;go_loud (refine wpList_append_lies _ (by rfl) _ _ _ (by rfl) w.heap.size 53 i0 _ 1 8 (by kernel_rfl) hi hz0 hz1 hz2 (by rfl) (by decide) _ S.length (ar2 S) (by rfl) (HOWN.out.alloc _) ⟨wr.heap.size,0,none⟩ 1 1 [.pointer (some ⟨gk2,offk+i*5,none⟩)] (by rfl) (by rfl) (World.news_of_block (heap_alloc_new _ _)) (bJ1 _) (by decide) (by unfold maxLen;omega) (by omega) (by simp<;>omega) (wr.heap.size+1) (by simp) ?_;intro g3 cap3 w3 hown3 hgrow3 hat3 hlt3))
      have hga3:=bb4 hgrow3 HOWN.out hgaW hww
      have z2:=(World.cell?_of_block (a:=⟨ga,oa+2,none⟩) hga3).trans k2
      go_roundg i
      case measure=>omega
      case rel=>exact⟨by omega,rfl,by rw [HKD.out,List.cons_append,HSD.out,List.length_cons,ar2];exact hown3,HIN.out.bel.trans (aJ1 hgrow3 HOWN.out hww),z2⟩
end
section
open Go.RowKit
theorem C.read1_idle (p0 p1 p2 p3:Value) (w:World):
  CallsD Tryz.prog 23 #[p0,p1,p2,p3] .returning w fun e u' w'=>e= .returned (.tuple #[])∧u'= .returning∧w'=w:=by
 refine callsD_of_wpS Tryz.func23 rfl fun c₀ cs hu=> ?_
 apply wpS_seq
 apply wpS_region
 simp [wpOpsS,go_sem,recoverD,hu,Tryz.ntmps23,Exit.thenS]
 apply wpS_seq
 apply wpS_region
 simp [wpOpsS,go_sem,recoverD,hu,Exit.thenS]
 refine wpS_cond (t:=false) (by simp [Act.eval,Array.replicate]) ?_
 simp only [Bool.false_eq_true,if_false]
 refine wpS_of_wp (wp_skip ?_)
 cases c₀
 simp_all [bodyPostS,results]
def rd1W (w:World) (b:Nat) (cc ii:Int):World:=(((lay5 w b 0 ⟨#[]⟩ (.slice none 0 0) 0 0).setCell ⟨b+1,0,none⟩ (.slice none 0 0)).setCell ⟨b+2,0,none⟩ (.int .i64 ii)).setCell ⟨b+3,0,none⟩ (.int .i64 cc)
theorem bo6 (W:World) (o:Obj) (k:Nat) (h:k<W.heap.size):(W.alloc o).drew.heap[k]? =W.heap[k]? :=Below.heap_alloc W o k h
theorem rd1 {w:World} {b:Nat} {kd:Int} {tx:ByteArray} {v:Value} {fr ti:Int} {vc:Value} {x2 x3:Int}
  (h0:aa6 w b kd tx v fr ti) (h1:ac2 w (b+1) vc 42) (h2:ac4 w (b+2) 3 x2) (h3:ac4 w (b+3) 35 x3) (cc ii:Int) (o:Obj):
  aa6 ((rd1W w b cc ii).alloc o).drew b 0 ⟨#[]⟩ (.slice none 0 0) 0 0∧ac2 ((rd1W w b cc ii).alloc o).drew (b+1) (.slice none 0 0) 42∧ac4 ((rd1W w b cc ii).alloc o).drew (b+2) 3 ii∧ac4 ((rd1W w b cc ii).alloc o).drew (b+3) 35 cc∧Only (fun k=>b≤k∧k<b+4) w ((rd1W w b cc ii).alloc o).drew:=by
 have ho:Only (fun k=>b≤k∧k<b+4) w (rd1W w b cc ii):=by
  have hb:b≤b∧b<b+4:=by omega
  unfold rd1W lay5
  exact(((((((((Only.refl _ w).setCell (p:=⟨b,0,none⟩) (.inl hb) _).setCell (p:=⟨b,1,none⟩) (.inl hb) _).setCell (p:=⟨b,2,none⟩) (.inl hb) _).setCell (p:=⟨b,3,none⟩) (.inl hb) _).setCell (p:=⟨b,4,none⟩) (.inl hb) _).setCell (p:=⟨b+1,0,none⟩) (.inl ⟨Nat.le_succ b,(by show b+1<b+4;omega)⟩) _).setCell (p:=⟨b+2,0,none⟩) (.inl ⟨(by show b≤b+2;omega),(by show b+2<b+4;omega)⟩) _).setCell (p:=⟨b+3,0,none⟩) (.inl ⟨(by show b≤b+3;omega),(by show b+3<b+4;omega)⟩) _)
 have hk: ∀k,k<w.heap.size→((rd1W w b cc ii).alloc o).drew.heap[k]? =(rd1W w b cc ii).heap[k]? :=fun k hk=>bo6 _ o k (Nat.lt_of_lt_of_le hk ho.size)
 have e1: ∀k,k≠b→(lay5 w b 0 ⟨#[]⟩ (.slice none 0 0) 0 0).heap[k]? =w.heap[k]? :=fun k h=>ad6 _ _ _ _ _ _ _ _ h
 refine⟨(hk b h0.lt).trans ?_,(hk _ h1.lt).trans ?_,(hk _ h2.lt).trans ?_,(hk _ h3.lt).trans ?_,(ho.alloc o).drew⟩
 ·unfold rd1W
  rw [Below.heap_setCell _ _ _ _ (by show b≠b+3;omega),Below.heap_setCell _ _ _ _ (by show b≠b+2;omega),Below.heap_setCell _ _ _ _ (by show b≠b+1;omega)]
  exact aa6.lay h0
 ·unfold rd1W
  rw [Below.heap_setCell _ _ _ _ (by show b+1≠b+3;omega),Below.heap_setCell _ _ _ _ (by show b+1≠b+2;omega)]
  exact(h1.same (e1 _ (by omega))).set
 ·unfold rd1W
  rw [Below.heap_setCell _ _ _ _ (by show b+2≠b+3;omega)]
  exact(ac4.far h2 ((Below.heap_setCell _ ⟨b+1,0,none⟩ _ _ (by show b+2≠b+1;omega)).trans (e1 _ (by omega)))).set _
 ·unfold rd1W
  exact(ac4.far h3 ((Below.heap_setCell _ ⟨b+2,0,none⟩ _ _ (by show b+3≠b+2;omega)).trans ((Below.heap_setCell _ ⟨b+1,0,none⟩ _ _ (by show b+3≠b+1;omega)).trans (e1 _ (by omega))))).set _
theorem C.read1_panic (b:Nat) (cc ii:Int) (w:World) {kd:Int} {tx:ByteArray} {v:Value} {fr ti:Int} {vc:Value} {x2 x3:Int}
  (h0:aa6 w b kd tx v fr ti) (h1:ac2 w (b+1) vc 42) (h2:ac4 w (b+2) 3 x2) (h3:ac4 w (b+3) 35 x3):
  CallsD Tryz.prog 23 #[.pointer (some ⟨b,0,none⟩),.pointer (some ⟨b+1,0,none⟩),.pointer (some ⟨b+2,0,none⟩),.pointer (some ⟨b+3,0,none⟩)] (.panicking (flt cc ii)) w fun e u' w'=>e= .returned (.tuple #[])∧u'= .panicking [{ v:= .iface 55 (.agg #[.int .i64 cc,.int .i64 ii]),recovered:=true }]∧aa6 w' b 0 ⟨#[]⟩ (.slice none 0 0) 0 0∧ac2 w' (b+1) (.slice none 0 0) 42∧ac4 w' (b+2) 3 ii∧ac4 w' (b+3) 35 cc∧Only (fun k=>b≤k∧k<b+4) w w':=by
 refine callsD_of_wpS Tryz.func23 rfl fun c₀ cs hu=> ?_
 unfold flt at hu
 apply wpS_seq
 apply wpS_region
 simp [wpOpsS,go_sem,recoverD,hu,Tryz.ntmps23,Exit.thenS]
 apply wpS_seq
 apply wpS_region
 simp [wpOpsS,go_sem,recoverD,Exit.thenS]
 refine wpS_cond (t:=true) (by simp [Act.eval,Array.replicate]) ?_
 simp only [if_true]
 refine wpS_of_wp ?_
 simp only [Array.replicate_succ,Array.replicate_zero,List.push_toArray,List.append_toArray,List.nil_append,List.cons_append,List.setIfInBounds_toArray,List.set_cons_zero,List.set_cons_succ]
 have hta: ∀(t:TypeId) (v:Value) (w:World),(Instr.typeAssert (.iface 55 v) t 55 true).run Tryz.prog w= .ok (.tuple #[v,.bool true]) w:=fun _ _ _=>by kernel_rfl
 obtain⟨a0,a1,a2,a3,a4,f0,f1,f2,f3,f4⟩:=aa6.facts h0
 obtain⟨a5,f5⟩:=h1.fs
 obtain⟨a6,f6⟩:=h2.facts
 obtain⟨a7,f7⟩:=h3.facts
 have l0:=h0.lt
 have l1:=h1.lt
 have l2:=h2.lt
 have l3:=h3.lt
 have H0:=hJ h0
 have H1:=hJ h1
 have H2:=hJ h2
 have H3:=hJ h3
 clear h0 h1 h2 h3
 go_upto_region 5 with fail
 go_region
 all_goals
  go_wp2_with fail
  exact⟨rfl,_,rfl,_,results_none rfl _ _ _,rfl,rfl,rd1 H0.out H1.out H2.out H3.out cc ii (.cells #[.int .i64 cc,.int .i64 ii] 55)⟩
end
section
open Go.RowKit
attribute [local go_sem] ab3 ab4 ab5 ab6 ab7 ab8
def RdA (w0 w:World) (T:Res Nd) (e:Ending) (w':World):Prop:=match T with
 | .ok n q=> ∃a cap sa sc,e= .returned (.tuple #[.agg #[.int .i64 n.kind,.string n.text,.slice a n.kids.length cap,.int .i64 n.from',.int .i64 n.till],.slice sa q.cms.length sc,.int .i64 0,.int .i64 0])∧n.kids.length≤cap∧RowS w' (fun k=>k<w'.heap.size∧¬(w0.heap.size≤k∧k<w.heap.size)) n.kids a 0∧OwnC w0.heap.size w' (.slice sa q.cms.length sc) q.cms
 | .bad c i=>e= .returned (.tuple #[.agg #[.int .i64 0,.string ⟨#[]⟩,.slice none 0 0,.int .i64 0,.int .i64 0],.slice none 0 0,.int .i64 i,.int .i64 c])
 | .out=>True
def rdW (w:World) (s:ByteArray) (m:Bool):World:=
 (((((w.alloc (.cells #[.int .i64 0,.string ⟨#[]⟩,.slice none 0 0,.int .i64 0,.int .i64 0] 27)).alloc (.cells #[.slice none 0 0] 42)).alloc (.cells #[.int .i64 0] 3)).alloc (.cells #[.int .i64 0] 35)).alloc (.map #[] 0)).alloc
  (.cells #[.string s,.int .i64 0,.int .i64 0,.string ⟨#[]⟩,.int .i64 0,.int .i64 0,.bool false,.slice none 0 0,.int .i64 0,.slice none 0 0,.bool m,.int .i64 1,.int .i64 0,.int .i64 (-1),.map (some (w.heap.size+4))] 61)
theorem aM4 {w:World} {o:Obj} {n:Nat} (h:w.heap.size=n):(w.alloc o).heap[n]? =some o:=by subst h;exact heap_alloc_new _ _
theorem ak9 {w:World} {o o2:Obj} {n:Nat} (h:w.heap[n]? =some o2):(w.alloc o).heap[n]? =some o2:=(Below.heap_alloc _ _ _ (Array.getElem?_eq_some_iff.1 h).1).trans h
theorem bF5 (s:ByteArray) (m:Bool) (w w0:World) (hw0:Below w0.heap.size w0 w):
  aa6 (rdW w s m) w.heap.size 0 ⟨#[]⟩ (.slice none 0 0) 0 0∧ac2 (rdW w s m) (w.heap.size+1) (.slice none 0 0) 42∧ac4 (rdW w s m) (w.heap.size+2) 3 0∧ac4 (rdW w s m) (w.heap.size+3) 35 0∧
   St ⟨s,m,w.heap.size+5,w0⟩ (fun k=>w0.heap.size≤k∧k<w.heap.size+4) (rdW w s m) (ps0 false)∧Below w.heap.size w (rdW w s m)∧(rdW w s m).heap.size=w.heap.size+6:=by
 unfold rdW
 have hsz: ∀(W:World) (o:Obj),(W.alloc o).heap.size=W.heap.size+1:=fun W o=>World.size_alloc W o
 have hb:Below w.heap.size w (rdW w s m):=by
  unfold rdW
  exact(((((Below.alloc (Below.refl _ w) (Nat.le_refl _) _).alloc (by simp) _).alloc (by simp;omega) _).alloc (by simp;omega) _).alloc (by simp;omega) _).alloc (by simp;omega) _
 unfold rdW at hb
 have hmp:(((((w.alloc (.cells #[.int .i64 0,.string ⟨#[]⟩,.slice none 0 0,.int .i64 0,.int .i64 0] 27)).alloc (.cells #[.slice none 0 0] 42)).alloc (.cells #[.int .i64 0] 3)).alloc (.cells #[.int .i64 0] 35)).alloc (.map #[] 0)).ownsMap Tryz.prog 3 (plainElem Tryz.prog 3) (w.heap.size+4) 0 (DataW.map []:DataW Unit):=by
  have:=World.ownsMap_made (H:=Unit) ((((w.alloc (.cells #[.int .i64 0,.string ⟨#[]⟩,.slice none 0 0,.int .i64 0,.int .i64 0] 27)).alloc (.cells #[.slice none 0 0] 42)).alloc (.cells #[.int .i64 0] 3)).alloc (.cells #[.int .i64 0] 35)) Tryz.prog 3 (plainElem Tryz.prog 3)
  rw [hsz,hsz,hsz,hsz] at this
  exact this
 refine⟨ak9 (ak9 (ak9 (ak9 (ak9 (aM4 rfl))))),ak9 (ak9 (ak9 (ak9 (aM4 (by rw [hsz]))))),ak9 (ak9 (ak9 (aM4 (by rw [hsz,hsz])))),ak9 (ak9 (aM4 (by rw [hsz,hsz,hsz]))),?_,hb,by rw [hsz,hsz,hsz,hsz,hsz,hsz]⟩
 refine StO.st (va:= .slice none 0 0) (vc:= .slice none 0 0) (mb:=w.heap.size+4) (D:= .map []) ⟨?_,⟨rfl,.inl ⟨rfl,rfl⟩⟩,?_,⟨rfl,.inl ⟨rfl,rfl⟩⟩,?_,?_,?_,?_,?_,?_,?_,hw0.trans (hb.mono hw0.size),by decide,by decide⟩
 ·exact aM4 (by rw [hsz,hsz,hsz,hsz,hsz])
 ·intro g h;cases h
 ·intro h;cases h
 ·intro h;cases h
 ·show w.heap.size+4≠w.heap.size+5;omega
 ·have:=hw0.size;show w0.heap.size≤w.heap.size+4;omega
 ·exact am6 hmp (Below.heap_alloc _ _ _ (ah7 hmp))
 ·exact⟨fun k=>rfl,by simp [ps0,Maps.size]⟩
 ·intro k hk
  refine⟨hk.1,?_,?_,?_,?_⟩
  ·rw [hsz,hsz,hsz,hsz,hsz,hsz];omega
  ·show k≠w.heap.size+5;omega
  ·intro h;cases h
  ·omega
structure RdB (w:World) (b:Nat) (k:Int) (t:ByteArray) (v:Value) (f u:Int) (vc:Value) (z c:Int):Prop where
 nd:aa6 w b k t v f u
 cs:ac2 w (b+1) vc 42
 at':ac4 w (b+2) 3 z
 code:ac4 w (b+3) 35 c
theorem RdB.same {w w':World} {b:Nat} {k:Int} {t:ByteArray} {v:Value} {f u:Int} {vc:Value} {z c:Int} (h:RdB w b k t v f u vc z c) (hk: ∀i,b≤i→i<b+4→w'.heap[i]? =w.heap[i]?):RdB w' b k t v f u vc z c:=
 ⟨(hk b (Nat.le_refl _) (by omega)).trans h.nd,h.cs.same (hk (b+1) (by omega) (by omega)),h.at'.far (hk (b+2) (by omega) (by omega)),h.code.far (hk (b+3) (by omega) (by omega))⟩
theorem RdB.drew {w:World} {b:Nat} {k:Int} {t:ByteArray} {v:Value} {f u:Int} {vc:Value} {z c:Int} (h:RdB w b k t v f u vc z c):RdB w.drew b k t v f u vc z c:=⟨h.nd,h.cs,h.at',h.code⟩
theorem aJ2 {fn:Func} (h:fn.results= #[.cell 6 27,.cell 7 42,.cell 8 3,.cell 9 35]) {tmps:Array Value} {w:World} {b:Nat} {k:Int} {t:ByteArray} {v:Value} {f u:Int} {vc:Value} {z c:Int}
  (h6:tmps.getD 6 undef= .pointer (some ⟨b,0,none⟩)) (h7:tmps.getD 7 undef= .pointer (some ⟨b+1,0,none⟩)) (h8:tmps.getD 8 undef= .pointer (some ⟨b+2,0,none⟩)) (h9:tmps.getD 9 undef= .pointer (some ⟨b+3,0,none⟩)) (hb:RdB w b k t v f u vc z c):
  (results fn tmps).run Tryz.prog w= .ok (.tuple #[.agg #[.int .i64 k,.string t,v,.int .i64 f,.int .i64 u],vc,.int .i64 z,.int .i64 c]) w:=by
 have e6:tmps[6]?.getD undef= .pointer (some ⟨b,0,none⟩):=by simpa using h6
 have e7:tmps[7]?.getD undef= .pointer (some ⟨b+1,0,none⟩):=by simpa using h7
 have e8:tmps[8]?.getD undef= .pointer (some ⟨b+2,0,none⟩):=by simpa using h8
 have e9:tmps[9]?.getD undef= .pointer (some ⟨b+3,0,none⟩):=by simpa using h9
 have r6:=run_loadVar_row (P:=Tryz.prog) w b _ 27 _ _ _ hb.nd Tryz.underlying27 rfl (by kernel_rfl)
 have r7:(loadVar 42 ⟨b+1,0,none⟩).run Tryz.prog w= .ok vc w:=by
  have:=hb.cs.fs.1
  simp [loadVar,go_sem,this]
 simp [results,h,e6,e7,e8,e9,asAddr,r6,r7,aY0 hb.at',bb5 hb.code]
def rdE (w:World) (b:Nat) (k:Int) (t:ByteArray) (v:Value) (f u:Int) (vc:Value) (z c:Int):World:=(((lay5 w b k t v f u).setCell ⟨b+1,0,none⟩ vc).setCell ⟨b+2,0,none⟩ (.int .i64 z)).setCell ⟨b+3,0,none⟩ (.int .i64 c)
theorem bK2 {w:World} {b:Nat} {kd:Int} {tx:ByteArray} {v0:Value} {fr ti:Int} {vc0:Value} {x2 x3:Int} (h:RdB w b kd tx v0 fr ti vc0 x2 x3) (k:Int) (t:ByteArray) (v:Value) (f u:Int) (vc:Value) (z c:Int):
  RdB (rdE w b k t v f u vc z c) b k t v f u vc z c∧Only (fun i=>b≤i∧i<b+4) w (rdE w b k t v f u vc z c):=by
 have hb:b≤b∧b<b+4:=by omega
 have ho:Only (fun i=>b≤i∧i<b+4) w (rdE w b k t v f u vc z c):=by
  unfold rdE lay5
  exact(((((((((Only.refl (fun i=>b≤i∧i<b+4) w).setCell (p:=⟨b,0,none⟩) (.inl hb) _).setCell (p:=⟨b,1,none⟩) (.inl hb) _).setCell (p:=⟨b,2,none⟩) (.inl hb) _).setCell (p:=⟨b,3,none⟩) (.inl hb) _).setCell (p:=⟨b,4,none⟩) (.inl hb) _).setCell (p:=⟨b+1,0,none⟩) (.inl ⟨Nat.le_succ b,(by show b+1<b+4;omega)⟩) _).setCell (p:=⟨b+2,0,none⟩) (.inl ⟨(by show b≤b+2;omega),(by show b+2<b+4;omega)⟩) _).setCell (p:=⟨b+3,0,none⟩) (.inl ⟨(by show b≤b+3;omega),(by show b+3<b+4;omega)⟩) _)
 have e1: ∀i,i≠b→(lay5 w b k t v f u).heap[i]? =w.heap[i]? :=fun i h=>ad6 _ _ _ _ _ _ _ _ h
 refine⟨⟨?_,?_,?_,?_⟩,ho⟩
 ·show aa6 _ _ _ _ _ _ _
  unfold aa6 rdE
  rw [Below.heap_setCell _ _ _ _ (by show b≠b+3;omega),Below.heap_setCell _ _ _ _ (by show b≠b+2;omega),Below.heap_setCell _ _ _ _ (by show b≠b+1;omega)]
  exact aa6.lay h.nd
 ·unfold ac2 rdE
  rw [Below.heap_setCell _ _ _ _ (by show b+1≠b+3;omega),Below.heap_setCell _ _ _ _ (by show b+1≠b+2;omega)]
  exact(h.cs.same (e1 _ (by omega))).set
 ·unfold ac4 rdE
  rw [Below.heap_setCell _ _ _ _ (by show b+2≠b+3;omega)]
  exact(ac4.far h.at' ((Below.heap_setCell _ ⟨b+1,0,none⟩ _ _ (by show b+2≠b+1;omega)).trans (e1 _ (by omega)))).set _
 ·unfold rdE
  exact(ac4.far h.code ((Below.heap_setCell _ ⟨b+2,0,none⟩ _ _ (by show b+3≠b+2;omega)).trans ((Below.heap_setCell _ ⟨b+1,0,none⟩ _ _ (by show b+3≠b+1;omega)).trans (e1 _ (by omega))))).set _
theorem St.own_ge0 {E:PE} {F:Nat→Prop} {w:World} {p:Ps} (h:St E F w p) (hE:E.w0.heap.size≤E.b) {k:Nat} (hk:Own w E.b k):E.w0.heap.size≤k:=by
 obtain⟨va,vc,mb,D,h0⟩:=h.open
 rcases (h0.own _).1 hk with e|e|e
 ·rw [e];exact hE
 ·exact(aa5 h0.cm e).2
 ·rw [e];exact h0.mb0
theorem St.pb_bel2 {E:PE} {F:Nat→Prop} {w w' wb:World} {p:Ps} (h:St E F w p) (hE:E.w0.heap.size≤E.b) (hb:Below wb.heap.size wb w) (hp:PB E.b X0 w w') (hF: ∀k,k<wb.heap.size→F k∨k<E.w0.heap.size):Below wb.heap.size wb w':=
 hb.trans ⟨hp.only.os,hp.only.tape,hp.only.output,hp.only.size,fun k hk=>hp.only.block k (Nat.lt_of_lt_of_le hk hb.size) (fun ho=>by
  rcases ho with ho|ho
  ·rcases hF k hk with h2|h2
   ·exact(h.fo k h2).2.2 ho
   ·have:=h.own_ge0 hE ho;omega
  ·exact ho)⟩
theorem bb1 {w w7 w8:World} {b n:Nat} (hb:Below b w w7) (h:Only (fun k=>b≤k∧k<n) w7 w8) (hw:b≤w7.heap.size):Below b w w8:=
 hb.trans ⟨h.os,h.tape,h.output,h.size,fun k hk=>h.block k (Nat.lt_of_lt_of_le hk hw) (fun hx=>by omega)⟩
theorem bA8 {w0 w w7:World} {T:Res Nd} {c i:Int} {tmps:Array Value} {k:Int} {t:ByteArray} {v:Value} {f u:Int} {vc:Value} {z c0:Int}
  (h6:tmps.getD 6 undef= .pointer (some ⟨w.heap.size,0,none⟩)) (h7:tmps.getD 7 undef= .pointer (some ⟨w.heap.size+1,0,none⟩)) (h8:tmps.getD 8 undef= .pointer (some ⟨w.heap.size+2,0,none⟩)) (h9:tmps.getD 9 undef= .pointer (some ⟨w.heap.size+3,0,none⟩))
  (hrb:RdB w7 w.heap.size k t v f u vc z c0) (hb:Below w.heap.size w w7) (hT:T= .bad c i):
  bodyPostD Tryz.prog Tryz.f15 (fun e w'=>RdA w0 w T e w'∧Below w.heap.size w w') (Exit.panic (flt c i)) { tmps:=tmps,defers:= [{ target:=Target.fn (Go.Fn.func 23) #[.pointer (some ⟨w.heap.size,0,none⟩),.pointer (some ⟨w.heap.size+1,0,none⟩),.pointer (some ⟨w.heap.size+2,0,none⟩),.pointer (some ⟨w.heap.size+3,0,none⟩)],args:= #[] }] } w7:=by
 refine leaves_cons (f:=23) (args:= #[.pointer (some ⟨w.heap.size,0,none⟩),.pointer (some ⟨w.heap.size+1,0,none⟩),.pointer (some ⟨w.heap.size+2,0,none⟩),.pointer (some ⟨w.heap.size+3,0,none⟩)]) (by simp) (by simp [go_sem]) ?_
 refine(C.read1_panic w.heap.size c i w7 hrb.nd hrb.cs hrb.at' hrb.code).mono ?_
 rintro e u' w8 ⟨rfl,rfl,g0,g1,g2,g3,ho⟩
 refine⟨_,aJ2 rfl h6 h7 h8 h9 ⟨g0,g1,g2,g3⟩,?_,bb1 hb ho hb.size⟩
 rw [hT]
 rfl
theorem bl8 (w:World) (q:Nat) (k:Int) (t:ByteArray) (v:Value) (f u:Int):Only (fun i=>i=q) w (lay5 w q k t v f u):=by
 unfold lay5
 exact(((((Only.refl (fun i=>i=q) w).setCell (p:=⟨q,0,none⟩) (.inl rfl) _).setCell (p:=⟨q,1,none⟩) (.inl rfl) _).setCell (p:=⟨q,2,none⟩) (.inl rfl) _).setCell (p:=⟨q,3,none⟩) (.inl rfl) _).setCell (p:=⟨q,4,none⟩) (.inl rfl) _
theorem RowS.rowP {w:World} {S:Nat→Prop} {B:Nat} (hS: ∀k,S k→k<B) {ks:List Nd} {a:Option Addr} {i:Nat} (h:RowS w S ks a i):RowP w 0 B ks a i:=
 ao7 fun j hj=>by
  obtain⟨g,off,ha,hn⟩:=ak4 h j hj
  exact⟨g,off,ha,NdS.ndc hS _ _ _ hn⟩
theorem bD4 {w:World} {S:Nat→Prop} {q:Nat} (n:Nd) {a:Option Addr} {cap:Nat} (h:RowS w S n.kids a 0) (hS: ∀k,S k→k<w.heap.size∧k≠q):RowP (lay5 w q n.kind n.text (.slice a n.kids.length cap) n.from' n.till) 0 w.heap.size n.kids a 0:=
 RowS.rowP (S:=S) (fun k hk=>(hS k hk).1) (ab2 (fun _ h=>h) (fun k hk=>ad6 _ _ _ _ _ _ _ _ (hS k hk).2) h)
theorem St.cmR {E:PE} {F:Nat→Prop} {w:World} {p:Ps} (h:St E F w p): ∃sa sc,w.cell? ⟨E.b,9,none⟩=some (.slice sa p.cms.length sc)∧OwnC E.w0.heap.size w (.slice sa p.cms.length sc) p.cms∧∀g,(Value.slice sa p.cms.length sc).ownBlock=some g→¬F g:=by
 obtain⟨va,vc,mb,D,h0⟩:=h.open
 obtain⟨sa,sc,rfl⟩:=au1 h0.cm
 refine⟨sa,sc,by rw [cell_of_row w E.b 9 _ _ _ h0.hb];rfl,h0.cm,fun g hg hF=> ?_⟩
 exact(h0.fo g hF).2.2.2.1 hg
theorem by3 {s:ByteArray} {m:Bool} {x:PM Nd} {K:FuncId} (hs:s.size≤1048576) (w w0:World) (hw0:Below w0.heap.size w0 w) (hx:Lx w0)
  (hk: ∀a W,(callFunc K #[a]).run Tryz.prog W= .ok (.enter K #[a]) W)
  (hK: ∀(E:PE) (F:Nat→Prop) (w1:World) (p:Ps),E.Ok→E.s=s→E.m=m→St E F w1 p→x p≠ .out→Calls Tryz.prog K #[.pointer (some ⟨E.b,0,none⟩)] w1 (Ans E F X0 w1 (x p) fun n v w'=>IsP E F w' n v))
  (hne:aQ5 x (ps0 m)≠ .out):
  Calls Tryz.prog 15 #[.string s,.bool m,.func (Fn.func K) #[] #[]] w fun e w'=>RdA w0 w (aQ5 x (ps0 m)) e w'∧Below w.heap.size w w':=by
 have hmm:= @run_makeMap Tryz.prog
 obtain⟨T,hT⟩: ∃T,aQ5 x (ps0 m)=T:=⟨_,rfl⟩
 rw [hT] at hne⊢
 unfold aQ5 at hT
 have HT:=hJ hT
 have HN:=hJ hne
 clear hT
 have HK:=hJ hK
 have HX:=hJ hx
 have hlen: ¬(1048576:Int)<(s.size:Int):=by omega
 clear hne hK hx
 go_enter_defers Tryz.func15,Tryz.ntmps15
 go_upto_region 5 with fail
 simp only [Nat.add_assoc,Nat.reduceAdd]
 change Code.wp _ _ _ _ (rdW w s m)
 obtain⟨h0,h1,h2,h3,hst,hbw,hsz⟩:=bF5 s m w w0 hw0
 generalize rdW w s m=w5 at*
 have HRB:=hJ (show RdB w5 w.heap.size 0 ⟨#[]⟩ (.slice none 0 0) 0 0 (.slice none 0 0) 0 0 from⟨h0,h1,h2,h3⟩)
 have HE:=hJ (show PE.Ok ⟨s,m,w.heap.size+5,w0⟩ from⟨by show s.size≤_;omega,HX.out,by have:=hw0.size;show w0.heap.size≤w.heap.size+5;omega⟩)
 clear h0 h1 h2 h3
 have HS:=hJ hst
 have HB:=hJ hbw
 clear hst hbw hmm
 go_upto_if 22 with fail
 go_cut [] from 23 to 29 (fun wx=>St ⟨s,m,w.heap.size+5,w0⟩ (fun k=>w0.heap.size≤k∧k<w.heap.size+4) wx (ps0 m)∧RdB wx w.heap.size 0 ⟨#[]⟩ (.slice none 0 0) 0 0 (.slice none 0 0) 0 0∧Below w.heap.size w wx)
 case first=>
  cases m with
  |false=>
   go_wp2_with fail
   go_meet
   exact⟨HS.out,HRB.out,HB.out⟩
  |true=>
   have c11:=HS.out.c_flags
   have f11:=HS.out.frozen 11
   have lb:=HS.out.lt
   dsimp only [ps0] at c11 f11 lb
   go_wp2_with fail
   go_meet
   obtain⟨hs1,hp1⟩:=HS.out.set (X:=X0) HE.out.hb 11 (.int .i64 5) (ps0 true) (fun _ _ _=>rfl) rfl rfl rfl (by decide)
   exact⟨hs1,HRB.out.same (fun i _ h2=>Below.heap_setCell _ _ _ _ (by show i≠w.heap.size+5;omega)),HB.out.setCell (p:=⟨w.heap.size+5,11,none⟩) (by show w.heap.size≤w.heap.size+5;omega) _⟩
 case rest=>
  obtain⟨hst,hrb,hbw⟩:=hcut
  clear HRB HS HB hsz
  have HS:=hJ hst
  have HRB:=hJ hrb
  have HB:=hJ hbw
  have HP:=hJ (PB.refl (w.heap.size+5) X0 wc)
  clear hst hrb hbw
  go_wp2_with fail
  refine(HK.out ⟨s,m,w.heap.size+5,w0⟩ _ wc (ps0 m) HE.out rfl rfl HS.out (PM.ne HT.out HN.out)).mono ?_
  intro e w7 h1
  rcases PM.cases HT.out HN.out with ⟨n,q1,hx,hk⟩|⟨c,i,hx,hk⟩
  rotate_left
  ·rw [hx] at h1
   obtain⟨rfl,hp1⟩:=h1
   replace HT:=hJ hk
   replace HRB:=hJ (HRB.out.same fun i h1 h2=>HS.out.fr hp1 (g:=i) ⟨Nat.le_trans hw0.size h1,h2⟩ id)
   clear hx hk
   go_wp2_with fail
   exact bA8 rfl rfl rfl rfl HRB.out (HS.out.pb_bel2 HE.out.hb HB.out hp1 (fun k hk=>by show(w0.heap.size≤k∧k<w.heap.size+4)∨k<w0.heap.size;omega)) HT.out
  rw [hx] at h1
  obtain⟨v,rfl,hn,hs1,hp1⟩:=h1
  replace HT:=hJ hk
  replace HRB:=hJ (HRB.out.same fun i h1 h2=>HS.out.fr hp1 (g:=i) ⟨Nat.le_trans hw0.size h1,h2⟩ id)
  obtain⟨a,cap,rfl,hcap,hrow⟩:=hn
  have hB7:Below w.heap.size w w7:=HS.out.pb_bel2 HE.out.hb HB.out hp1 (fun k hk=>by show(w0.heap.size≤k∧k<w.heap.size+4)∨k<w0.heap.size;omega)
  have hl7:=hs1.lt
  have hcm:=hs1.cmR
  dsimp only at hl7
  have hlay:=aa6.lay (k:=n.kind) (t:=n.text) (v:= .slice a n.kids.length cap) (f:=n.from') (u:=n.till) HRB.out.nd
  have hR8:=bD4 (q:=w.heap.size) (cap:=cap) n hrow (fun k hk=>⟨hk.1,fun e=>hk.2.2 (by rw [e];exact⟨hw0.size,by omega⟩)⟩)
  have hB8:=lay5_bel hB7 (Nat.le_refl w.heap.size) n.kind n.text (.slice a n.kids.length cap) n.from' n.till
  have hZ8:=al2 w7 w.heap.size n.kind n.text (.slice a n.kids.length cap) n.from' n.till
  have hRB8:RdB (lay5 w7 w.heap.size n.kind n.text (.slice a n.kids.length cap) n.from' n.till) w.heap.size n.kind n.text (.slice a n.kids.length cap) n.from' n.till (.slice none 0 0) 0 0:=by
   have hk:=fun i (h:i≠w.heap.size)=>ad6 w7 w.heap.size n.kind n.text (.slice a n.kids.length cap) n.from' n.till i h
   exact⟨hlay,HRB.out.cs.same (hk _ (by omega)),HRB.out.at'.far (hk _ (by omega)),HRB.out.code.far (hk _ (by omega))⟩
  obtain⟨x0,x1,x2,x3,x4,y0,y1,y2,y3,y4⟩:=aa6.facts HRB.out.nd
  have lb:=HRB.out.nd.lt
  have HS7:=hJ hs1
  have HCM:=hJ hcm
  have HL:=hJ hlay
  have HR8:=hJ hR8
  have HROW:=hJ hrow
  have HB8:=hJ hB8
  have HRB8:=hJ hRB8
  clear hs1 hp1 hcm hlay hR8 hB8 hRB8 hB7 hrow hx hk HK HS HRB HB HP
  have hnp:aw3 n=true:=by
   rcases Bool.eq_false_or_eq_true (aw3 n) with h|h
   ·exact h
   ·have h2:=HT.out
    rw [if_pos h] at h2
    exact absurd h2.symm HN.out
  have hsz:aa4 n≤4194304:=by
   by_cases h:4194304<aa4 n
   ·have h2:=HT.out
    rw [if_neg (by rw [hnp];decide),if_pos h] at h2
    exact absurd h2.symm HN.out
   ·omega
  have hT2:=HT.out
  rw [if_neg (by rw [hnp];decide),if_neg (by omega)] at hT2
  replace HT:=hJ hT2
  have HNP:=hJ hnp
  clear hT2 hnp
  have HO8:=hJ (bl8 w7 w.heap.size n.kind n.text (.slice a n.kids.length cap) n.from' n.till)
  go_upto_region 8 with fail
  change Code.wp _ _ _ _ (lay5 w7 w.heap.size n.kind n.text (.slice a n.kids.length cap) n.from' n.till)
  generalize lay5 w7 w.heap.size n.kind n.text (.slice a n.kids.length cap) n.from' n.till=w8 at*
  clear x0 x1 x2 x3 x4 y0 y1 y2 y3 y4
  go_wp2_with fail
  refine(bt8 n w.heap.size 0 0 w8.heap.size _ w8 (ab0.ndc (b:=a) (cap:=cap) HL.out hcap HR8.out (Nat.le_of_eq hZ8.symm)) (Nat.le_refl _) hsz HNP.out).mono ?_
  rintro e w9 ⟨rfl,hb9⟩
  have lb8:=HL.out.lt
  have hl8:w.heap.size+5<w8.heap.size:=by rw [hZ8];exact hl7
  have HRB9:=hJ (HRB8.out.same fun i _ h=>hb9.block i (by omega))
  have HB9:=hJ (aa0 HB8.out hb9)
  have HR9:=hJ (ad5 HR8.out (by rw [←hZ8];exact hb9))
  have HB89:=hJ hb9
  obtain⟨x0,x1,x2,x3,x4,y0,y1,y2,y3,y4⟩:=aa6.facts HRB9.out.nd
  have hZ9:=hb9.size
  clear hb9
  go_wp2_with fail
  refine(bj6 n _ w9 0 w7.heap.size ⟨a,cap,rfl,hcap,HR9.out⟩ (by omega) hsz).mono ?_
  rintro e w10 ⟨rfl,hb10⟩
  have HRB10:=hJ (HRB9.out.same fun i _ h=>hb10.block i (by omega))
  have HB10:=hJ (aa0 HB9.out hb10)
  have HR10:=hJ (ad5 (w':=w10) HR9.out (hb10.mono (by omega)))
  have HO10:=hJ ((HO8.out.below HB89.out).below hb10)
  have hZ10:=hb10.size
  clear hb10 x0 x1 x2 x3 x4 y0 y1 y2 y3 y4
  by_cases hd:8000<af3 n
  ·have hT2:=HT.out
   rw [if_pos hd] at hT2
   replace HT:=hJ hT2
   have hm0:(msD n==0)=true:=by rw [msD,if_neg (by omega)];rfl
   clear hT2 hd
   go_wp2_with fail
   refine(P.fail _ _ _ _).mono ?_
   rintro e w11 ⟨rfl,rfl⟩
   go_wp2_with fail
   exact bA8 rfl rfl rfl rfl HRB10.out HB10.out HT.out.symm
  ·have hT2:=HT.out
   rw [if_neg hd] at hT2
   replace HT:=hJ hT2
   have hm0:(msD n==0)=false:=by rw [msD,if_pos (by omega),aE2];rw [beq_eq_false_iff_ne];omega
   clear hT2 hd
   obtain⟨sa,sc,c9,hoc,hnf⟩:=HCM.out
   have c9':w10.cell? ⟨w.heap.size+5,9,none⟩=some (.slice sa q1.cms.length sc):=(World.cell?_of_block (HO10.out.block _ hl7 (by show w.heap.size+5≠w.heap.size;omega))).trans c9
   obtain⟨x0,x1,x2,x3,x4,y0,y1,y2,y3,y4⟩:=aa6.facts HRB10.out.nd
   obtain⟨x5,y5⟩:=HRB10.out.cs.fs
   obtain⟨x6,y6⟩:=HRB10.out.at'.facts
   obtain⟨x7,y7⟩:=HRB10.out.code.facts
   have l0:=HRB10.out.nd.lt
   have l1:=HRB10.out.cs.lt
   have l2:=HRB10.out.at'.lt
   have l3:=HRB10.out.code.lt
   have HOC:=hJ hoc
   have HNF:=hJ hnf
   clear hoc hnf c9 HCM
   go_upto_region 11 with fail
   go_region
   all_goals
    go_wp2_with fail
    obtain⟨hrbF0,hoF0⟩:=bK2 HRB10.out n.kind n.text (.slice a n.kids.length cap) n.from' n.till (.slice sa q1.cms.length sc) 0 0
    have hrbF:=hrbF0.drew
    have hoF:=hoF0.drew
    have HRF:=hJ hoF
    unfold rdE lay5 at hrbF hoF
    refine leaves_cons (f:=23) (args:= #[.pointer (some ⟨w.heap.size,0,none⟩),.pointer (some ⟨w.heap.size+1,0,none⟩),.pointer (some ⟨w.heap.size+2,0,none⟩),.pointer (some ⟨w.heap.size+3,0,none⟩)]) (by simp) (by simp [go_sem]) ?_
    refine(C.read1_idle _ _ _ _ _).mono ?_
    rintro e u' w12 ⟨rfl,rfl,rfl⟩
    refine⟨_,aJ2 rfl rfl rfl rfl rfl hrbF,?_,bb1 HB10.out hoF (by omega)⟩
    have hof:=(HO10.out.mono (Y:=fun i=>w.heap.size≤i∧i<w.heap.size+4) (fun i hi=>by rw [hi];exact⟨Nat.le_refl _,by omega⟩)).trans hoF
    rw [←HT.out]
    refine⟨a,cap,sa,sc,rfl,hcap,ab2 (fun k hk=>⟨Nat.lt_of_lt_of_le hk.1 hof.size,fun h=>hk.2.2 ⟨h.1,by omega⟩⟩) (fun k hk=>hof.block k hk.1 (fun h=>hk.2.2 ⟨Nat.le_trans hw0.size h.1,h.2⟩)) HROW.out,ad0 HOC.out (fun g hg hlt=>hof.block g hlt (fun h=>HNF.out g hg ⟨Nat.le_trans hw0.size h.1,h.2⟩))⟩
end
section
open Go.RowKit
def ExA (T:Res Nd) (e:Ending) (w':World):Prop:=match T with
 | .ok n _=> ∃a cap,e= .returned (.tuple #[.agg #[.int .i64 n.kind,.string n.text,.slice a n.kids.length cap,.int .i64 n.from',.int .i64 n.till],.int .i64 0,.int .i64 0])∧n.kids.length≤cap∧RowP w' 0 w'.heap.size n.kids a 0
 | .bad c i=>e= .returned (.tuple #[.agg #[.int .i64 0,.string ⟨#[]⟩,.slice none 0 0,.int .i64 0,.int .i64 0],.int .i64 i,.int .i64 c])
 | .out=>True
theorem aI2 {fn:Func} (h:fn.results= #[.cell 4 27,.tmp 5,.tmp 6]) {tmps:Array Value} {w:World} {b:Nat} {k:Int} {t:ByteArray} {v:Value} {f u:Int} {z c:Value}
  (h4:tmps.getD 4 undef= .pointer (some ⟨b,0,none⟩)) (h5:tmps.getD 5 undef=z) (h6:tmps.getD 6 undef=c) (hb:aa6 w b k t v f u):
  (results fn tmps).run Tryz.prog w= .ok (.tuple #[.agg #[.int .i64 k,.string t,v,.int .i64 f,.int .i64 u],z,c]) w:=by
 have e4:tmps[4]?.getD undef= .pointer (some ⟨b,0,none⟩):=by simpa using h4
 have e5:tmps[5]?.getD undef=z:=by simpa using h5
 have e6:tmps[6]?.getD undef=c:=by simpa using h6
 have r4:=run_loadVar_row (P:=Tryz.prog) w b _ 27 _ _ _ hb Tryz.underlying27 rfl (by kernel_rfl)
 simp [results,h,e4,e5,e6,asAddr,r4]
theorem bA1 {w:World} {q:Nat} {k0:Int} {t0:ByteArray} {v0:Value} {f0 u0:Int} (h:aa6 w q k0 t0 v0 f0 u0) (k:Int) (t:ByteArray) (v:Value) (f u:Int) (o:Obj):
  aa6 ((((((w.setCell ⟨q,0,none⟩ (.int .i64 k)).setCell ⟨q,1,none⟩ (.string t)).setCell ⟨q,2,none⟩ v).setCell ⟨q,3,none⟩ (.int .i64 f)).setCell ⟨q,4,none⟩ (.int .i64 u)).alloc o) q k t v f u:=
 ak9 (aa6.lay (k:=k) (t:=t) (v:=v) (f:=f) (u:=u) h)
theorem bA0 {w w2:World} (h:Below w.heap.size w w2) (k:Int) (t:ByteArray) (v:Value) (f u:Int) (o:Obj):
  Below w.heap.size w ((((((w2.setCell ⟨w.heap.size,0,none⟩ (.int .i64 k)).setCell ⟨w.heap.size,1,none⟩ (.string t)).setCell ⟨w.heap.size,2,none⟩ v).setCell ⟨w.heap.size,3,none⟩ (.int .i64 f)).setCell ⟨w.heap.size,4,none⟩ (.int .i64 u)).alloc o):=by
 have h2:=lay5_bel h (Nat.le_refl _) k t v f u
 exact h2.alloc h2.size o
theorem bH9 {w:World} {S:Nat→Prop} {q:Nat} (n:Nd) {a:Option Addr} {cap:Nat} (hS: ∀k,S k→k<w.heap.size∧k≠q) (h:RowS w S n.kids a 0) (o:Obj):
  RowP ((((((w.setCell ⟨q,0,none⟩ (.int .i64 n.kind)).setCell ⟨q,1,none⟩ (.string n.text)).setCell ⟨q,2,none⟩ (.slice a n.kids.length cap)).setCell ⟨q,3,none⟩ (.int .i64 n.from')).setCell ⟨q,4,none⟩ (.int .i64 n.till)).alloc o) 0 ((((((w.setCell ⟨q,0,none⟩ (.int .i64 n.kind)).setCell ⟨q,1,none⟩ (.string n.text)).setCell ⟨q,2,none⟩ (.slice a n.kids.length cap)).setCell ⟨q,3,none⟩ (.int .i64 n.from')).setCell ⟨q,4,none⟩ (.int .i64 n.till)).alloc o).heap.size n.kids a 0:=by
 have hz:=al2 w q n.kind n.text (.slice a n.kids.length cap) n.from' n.till
 unfold lay5 at hz
 refine RowS.rowP (S:=S) (fun k hk=>by rw [World.size_alloc,hz];exact Nat.lt_succ_of_lt (hS k hk).1) (ab2 (fun _ h=>h) (fun k hk=> ?_) h)
 rw [Below.heap_alloc _ _ _ (by rw [hz];exact(hS k hk).1)]
 exact ad6 w q n.kind n.text (.slice a n.kids.length cap) n.from' n.till k (hS k hk).2
theorem br0 {s:ByteArray} {m:Bool} {x:PM Nd} (hs:s.size≤1048576) (w:World) (hx:Lx w)
  (hK: ∀(E:PE) (F:Nat→Prop) (w1:World) (p:Ps),E.Ok→E.s=s→E.m=m→St E F w1 p→x p≠ .out→Calls Tryz.prog 16 #[.pointer (some ⟨E.b,0,none⟩)] w1 (Ans E F X0 w1 (x p) fun n v w'=>IsP E F w' n v))
  (hne:aQ5 x (ps0 m)≠ .out):
  Calls Tryz.prog 11 #[.string s,.bool m] w fun e w'=>ExA (aQ5 x (ps0 m)) e w'∧Below w.heap.size w w':=by
 have HR:=hJ (fun(W:World) (h:Below w.heap.size w W)=>by3 (s:=s) (m:=m) (x:=x) (K:=16) hs W w h hx (fun _ _=>by kernel_rfl) hK hne)
 generalize aQ5 x (ps0 m)=T at*
 have HN:=hJ hne
 clear hx hK hne
 go_enter Tryz.func11,Tryz.ntmps11
 have hba:=Below.alloc (Below.refl w.heap.size w) (Nat.le_refl _) (.cells #[.int .i64 0,.string ⟨#[]⟩,.slice none 0 0,.int .i64 0,.int .i64 0] 27)
 have HBX:=hJ (show aa6 (w.alloc (.cells #[.int .i64 0,.string ⟨#[]⟩,.slice none 0 0,.int .i64 0,.int .i64 0] 27)) w.heap.size 0 ⟨#[]⟩ (.slice none 0 0) 0 0 from heap_alloc_new _ _)
 have HB:=hJ hba
 have hsz:(w.alloc (.cells #[.int .i64 0,.string ⟨#[]⟩,.slice none 0 0,.int .i64 0,.int .i64 0] 27)).heap.size=w.heap.size+1:=World.size_alloc _ _
 clear hba
 go_wp2_with fail
 generalize w.alloc (.cells #[.int .i64 0,.string ⟨#[]⟩,.slice none 0 0,.int .i64 0,.int .i64 0] 27)=w1 at*
 refine(HR.out w1 HB.out).mono ?_
 rintro e w2 ⟨h1,hb2⟩
 have HBX2:=hJ (show aa6 w2 w.heap.size 0 ⟨#[]⟩ (.slice none 0 0) 0 0 from(hb2.block _ (by omega)).trans HBX.out)
 have HB2:=hJ (HB.out.trans (hb2.mono (by omega)))
 obtain⟨x0,x1,x2,x3,x4,y0,y1,y2,y3,y4⟩:=aa6.facts HBX2.out
 have l0:=HBX2.out.lt
 have hz2:=hb2.size
 clear hb2
 unfold RdA at h1
 cases T with
 |out=>exact absurd rfl HN.out
 |bad c i=>
  subst h1
  go_wp2_with fail
  refine bodyPost_ret (aI2 rfl rfl rfl rfl (bA1 HBX2.out 0 ⟨#[]⟩ (.slice none 0 0) 0 0 _)) rfl ⟨rfl,bA0 HB2.out _ _ _ _ _ _⟩
 |ok n q=>
  obtain⟨a,cap,sa,sc,rfl,hcap,hrow,_⟩:=h1
  have HROW:=hJ hrow
  clear hrow
  go_wp2_with fail
  refine bodyPost_ret (aI2 rfl rfl rfl rfl (bA1 HBX2.out n.kind n.text (.slice a n.kids.length cap) n.from' n.till _)) rfl ⟨⟨a,cap,rfl,hcap,bH9 n (fun k hk=>⟨hk.1,fun e=>hk.2 (by omega)⟩) HROW.out _⟩,bA0 HB2.out _ _ _ _ _ _⟩
end
end Go.Proofs.YtnobjeelihkjmaaGreatDoor
