/- Steps (Wf1 Wf). Conditions: as stated. -/
import Derived.Test.YtokfgpjclmdllaaGreatDoorPn30
import Derived.Test.YtokfgpjclmdllaaGreatDoorPn31
set_option maxHeartbeats 8000000
set_option maxRecDepth 100000
namespace Go.Proofs.YtokfgpjclmdllaaGreatDoor
section
open Go.RowKit
attribute [local go_sem] aa8 aa9 ab0 ab1 ab2 ab3
attribute [local go_sem ↓] Go.wp_at_zero Go.wp_at_succ
@[reducible] def KB (gn:Nat) (v:Value) (fr:Int):Box:=(gn,true,.c5 (.int .i64 56) (.string ⟨#[]⟩) v (.int .i64 fr) (.int .i64 0) 26)
theorem C.children1 {E:PE} {R:(x:Fn)→PM x.Out} (hR:Env E R) {F0 X:Nat→Prop} {w0 w:World} {q:Ps} {gn gp gt gr:Nat} {t:Tk} {fr:Int} {v:Value} {l:List Kd} (hl:l.length≤4194304) (hA:Hid (Sa E F0 X w0 w q [KB gn v fr,(gp,true,.p E.b),(gt,true,.tk t),(gr,true,.z)] [] (some (v,l)))) (hne:R (.markup t.from') q≠ .out):
  Calls Tryz.prog 272 #[.pointer (some ⟨gn,0,none⟩),.pointer (some ⟨gp,0,none⟩),.pointer (some ⟨gt,0,none⟩)] w
   (AnsA E F0 X w0 (R (.markup t.from') q) fun n bs ns ro=> ∃v' a c,bs= [KB gn v' fr,(gp,true,.p E.b),(gt,true,.tk t),(gr,true,.z)]∧ns= [(n,a,c)]∧ro=some (v',l++ [(n,a,c)])):=by
 obtain⟨T,hT⟩: ∃T,R (.markup t.from') q=T:=⟨_,rfl⟩
 rw [hT] at hne⊢
 obtain⟨sa,sc,rfl⟩:=hA.out.rowform
 have n1:(l.length:Int)<((l.length+1:Nat):Int):=by omega
 have n2:(l.length:Int)<(l.length:Int)+1:=by omega
 have n3:(0:Int)≤(l.length:Int):=by omega
 have HA:=hA.out.drew
 have HX:=hJ hT
 have HN:=hJ hne
 clear hA hT hne
 go_enter Tryz.func272,Tryz.ntmps272
 refine aA5 (by kernel_rfl) (by kernel_rfl) (fun listed a W=> ∃(b0 b1 b2 b3 b4 b5 b6 b7 b8 b9 b10 b11 b12:Bool) (gz:Nat) (r:Nat) (c:Nat) (ax:Option Addr) (cx:Nat) (n:Nd) (q1:Ps),listed= #[b0,b1,b2,b3,b4,b5,b6,b7,b8,b9,b10,b11,b12]∧a= { tmps:= #[.pointer (some ⟨gn,0,none⟩),.pointer (some ⟨gp,0,none⟩),.pointer (some ⟨gt,0,none⟩),bif b0 then .pointer (some ⟨gn,2,none⟩) else undef,bif b1 then (.slice sa l.length sc) else undef,bif b2 then .pointer (some ⟨E.b,0,none⟩) else undef,bif b3 then .pointer (some ⟨gt,2,none⟩) else undef,bif b4 then .int .i64 t.from' else undef,bif b5 then .agg #[.int .i64 n.kind,.string n.text,.slice ax n.kids.length cx,.int .i64 n.from',.int .i64 n.till] else undef,bif b6 then .int .i64 l.length else undef,bif b7 then .slice (some ⟨gz,0,none⟩) 1 1 else undef,bif b8 then (.slice (some ⟨r,0,none⟩) (l.length+1) c) else undef,bif b9 then .pointer (some ⟨r,l.length*5,none⟩) else undef,bif b11 then .pointer (some ⟨gn,2,none⟩) else undef],defers:= [] } ∧(b8=true→(b0 && b1 && b2 && b3 && b4 && b5 && b6 && b7)=true)∧((b9||b10||b11||b12)=true→b8=true)∧(b5=true→T= .ok n q1)∧Sa E F0 X w0 W (bif b5 then q1 else q) (KB gn (bif b12 then (.slice (some ⟨r,0,none⟩) (l.length+1) c) else (.slice sa l.length sc)) fr::(gp,true,.p E.b)::(gt,true,.tk t)::(gr,true,.z)::(bif b7 then [(gz,true,.z)] else [])) (bif b5 then [(n,ax,cx)] else []) (some (bif b8 then (.slice (some ⟨r,0,none⟩) (l.length+1) c) else (.slice sa l.length sc),bif b8 then l++ [bif b10 then (n,ax,cx) else (Nd.zero,none,0)] else l))) ?_ ?_ ?_
 ·exact⟨_,_,_,_,_,_,_,_,_,_,_,_,_,0,0,0,none,0,Nd.zero,q,rfl,rfl,(by simp),(by simp),(fun h=>by cases h),HA.out⟩
 ·rintro a W ⟨b0,b1,b2,b3,b4,b5,b6,b7,b8,b9,b10,b11,b12,gz,r,c,ax,cx,n,q1,h1,rfl,i8,i9,iT,hS⟩
  have h2: [true,true,true,true,true,true,true,true,true,true,true,true,true]= [b0,b1,b2,b3,b4,b5,b6,b7,b8,b9,b10,b11,b12]:=congrArg Array.toList h1
  simp only [List.cons.injEq,and_true] at h2
  obtain⟨rfl,rfl,rfl,rfl,rfl,rfl,rfl,rfl,rfl,rfl,rfl,rfl,rfl⟩:=h2
  clear h1
  have HA:=hJ hS
  clear hS
  obtain rfl:=iT rfl
  have hz:=HA.out.pick [0,1,2,3] [0] (by decide)
  exact bodyPost_end (results_none rfl _ _ _) rfl ⟨rfl,_,_,_,⟨_,ax,cx,rfl,rfl,rfl⟩,hz⟩
 ·clear HA
  rintro listed a W i ⟨b0,b1,b2,b3,b4,b5,b6,b7,b8,b9,b10,b11,b12,gz,r,c,ax,cx,n,q1,rfl,rfl,i8,i9,iT,hS⟩ hi
  rw [mem_ready] at hi
  have HA:=hJ hS
  clear hS
  match i,hi with
  |0,hg=>
   clear hi
   simp [Region.binds] at hg
   obtain⟨rfl,rfl,rfl,rfl,rfl⟩:=al6 i8 i9 (by simp [hg])
   obtain rfl:b0=false:=by simp [hg]
   refine wpOp_step rfl fun K hK=> ?_
   go_simp
   exact hK _ _ ⟨_,_,_,_,_,_,_,_,_,_,_,_,_,gz,r,c,ax,cx,n,q1,rfl,rfl,(by simp),(by simp),iT,HA.out⟩
  |1,hg=>
   clear hi
   simp [Region.binds] at hg
   obtain⟨rfl,rfl,rfl,rfl,rfl⟩:=al6 i8 i9 (by simp [hg])
   obtain rfl:b0=true:=by simp [hg]
   obtain rfl:b1=false:=by simp [hg]
   obtain⟨zn,zp,zt,zr,-⟩:=HA.out.fs
   have yn:=HA.out.fw 0 rfl
   refine wpOp_step rfl fun K hK=> ?_
   go_simp
   exact hK _ _ ⟨_,_,_,_,_,_,_,_,_,_,_,_,_,gz,r,c,ax,cx,n,q1,rfl,rfl,(by simp),(by simp),iT,HA.out⟩
  |2,hg=>
   clear hi
   simp [Region.binds] at hg
   obtain⟨rfl,rfl,rfl,rfl,rfl⟩:=al6 i8 i9 (by simp [hg])
   obtain rfl:b2=false:=by simp [hg]
   obtain⟨zn,zp,zt,zr,-⟩:=HA.out.fs
   have yn:=HA.out.fw 0 rfl
   refine wpOp_step rfl fun K hK=> ?_
   go_simp
   exact hK _ _ ⟨_,_,_,_,_,_,_,_,_,_,_,_,_,gz,r,c,ax,cx,n,q1,rfl,rfl,(by simp),(by simp),iT,HA.out⟩
  |3,hg=>
   clear hi
   simp [Region.binds] at hg
   obtain⟨rfl,rfl,rfl,rfl,rfl⟩:=al6 i8 i9 (by simp [hg])
   obtain rfl:b3=false:=by simp [hg]
   refine wpOp_step rfl fun K hK=> ?_
   go_simp
   exact hK _ _ ⟨_,_,_,_,_,_,_,_,_,_,_,_,_,gz,r,c,ax,cx,n,q1,rfl,rfl,(by simp),(by simp),iT,HA.out⟩
  |4,hg=>
   clear hi
   simp [Region.binds] at hg
   obtain⟨rfl,rfl,rfl,rfl,rfl⟩:=al6 i8 i9 (by simp [hg])
   obtain rfl:b3=true:=by simp [hg]
   obtain rfl:b4=false:=by simp [hg]
   obtain⟨zn,zp,zt,zr,-⟩:=HA.out.fs
   have yn:=HA.out.fw 0 rfl
   refine wpOp_step rfl fun K hK=> ?_
   go_simp
   exact hK _ _ ⟨_,_,_,_,_,_,_,_,_,_,_,_,_,gz,r,c,ax,cx,n,q1,rfl,rfl,(by simp),(by simp),iT,HA.out⟩
  |5,hg=>
   clear hi
   simp [Region.binds] at hg
   obtain⟨rfl,rfl,rfl,rfl,rfl⟩:=al6 i8 i9 (by simp [hg])
   obtain⟨rfl,rfl⟩:b2=true∧b4=true:=by simp [hg]
   obtain rfl:b5=false:=by simp [hg]
   refine wpOp_step rfl fun K hK=> ?_
   go_simp
   clear iT
   cases T with
   |out=>exact absurd rfl HN.out
   |ok n q1=>
    refine HA.out.gotN HX (fun _ h e=>hR.h (.markup t.from') _ _ _ h.s e) ?_
    intro ax cx w7 HA
    exact hK _ _ ⟨_,_,_,_,_,_,_,_,_,_,_,_,_,gz,r,c,ax,cx,n,q1,rfl,rfl,(by simp),(by simp),(fun _=>rfl),HA.out⟩
   |bad c i=>exact HA.out.gotbad (.agg #[.int .i64 0,.string ⟨#[]⟩,.slice none 0 0,.int .i64 0,.int .i64 0]) HX (hJ (rfl:(Res.bad c i:Res Nd)= .bad c i)) (fun _ h e=>hR.h (.markup t.from') _ _ _ h.s e) (fun _ H=>⟨rfl,rfl,H.out.2⟩) fun HF=>HF.out.elim
  |6,hg=>
   clear hi
   simp [Region.binds] at hg
   obtain⟨rfl,rfl,rfl,rfl,rfl⟩:=al6 i8 i9 (by simp [hg])
   obtain rfl:b1=true:=by simp [hg]
   obtain rfl:b6=false:=by simp [hg]
   refine wpOp_step rfl fun K hK=> ?_
   go_simp
   exact hK _ _ ⟨_,_,_,_,_,_,_,_,_,_,_,_,_,gz,r,c,ax,cx,n,q1,rfl,rfl,(by simp),(by simp),iT,HA.out⟩
  |7,hg=>
   clear hi
   simp [Region.binds] at hg
   obtain⟨rfl,rfl,rfl,rfl,rfl⟩:=al6 i8 i9 (by simp [hg])
   obtain rfl:b7=false:=by simp [hg]
   refine wpOp_step rfl fun K hK=> ?_
   go_simp
   exact hK _ _ ⟨_,_,_,_,_,_,_,_,_,_,_,_,_,W.heap.size,r,c,ax,cx,n,q1,rfl,rfl,(by simp),(by simp),iT,(HA.out.pZ rfl).out.back.out⟩
  |8,hg=>
   clear hi
   simp [Region.binds] at hg
   obtain⟨rfl,rfl,rfl,rfl,rfl,rfl,rfl,rfl⟩:b0=true∧b1=true∧b2=true∧b3=true∧b4=true∧b5=true∧b6=true∧b7=true:=by simp [hg]
   obtain rfl:b8=false:=by simp [hg]
   obtain⟨rfl,rfl,rfl,rfl⟩:=ba5 i9
   refine wpOp_step rfl fun K hK=> ?_
   refine aF8 (l:=l) (v:=(.slice sa l.length sc)) (by rfl) _ _ _ (by rfl) (by kernel_rfl) al4 HA.out 4 rfl (by rfl) (by rfl) (by omega) ?_
   intro r c w1 HA
   exact hK _ _ ⟨_,_,_,_,_,_,_,_,_,_,_,_,_,gz,r,c,ax,cx,n,q1,rfl,rfl,(by simp),(by simp),iT,HA.out⟩
  |9,hg=>
   clear hi
   simp [Region.binds] at hg
   obtain rfl:b8=true:=by simp [hg]
   obtain⟨rfl,rfl,rfl,rfl,rfl,rfl,rfl,rfl⟩:b0=true∧b1=true∧b2=true∧b3=true∧b4=true∧b5=true∧b6=true∧b7=true:=by simp [hg]
   obtain rfl:b9=false:=by simp [hg]
   refine wpOp_step rfl fun K hK=> ?_
   go_simp
   exact hK _ _ ⟨_,_,_,_,_,_,_,_,_,_,_,_,_,gz,r,c,ax,cx,n,q1,rfl,rfl,(by simp),(by simp),iT,HA.out⟩
  |10,hg=>
   clear hi
   simp [Region.binds] at hg
   obtain rfl:b8=true:=by simp [hg]
   obtain⟨rfl,rfl,rfl,rfl,rfl,rfl,rfl,rfl⟩:b0=true∧b1=true∧b2=true∧b3=true∧b4=true∧b5=true∧b6=true∧b7=true:=by simp [hg]
   obtain rfl:b9=true:=by simp [hg]
   obtain rfl:b10=false:=by simp [hg]
   obtain⟨⟨fr0,fr1,fr2,fr3,fr4⟩,c0,c1,c2,c3,c4,lr9⟩:=HA.out.lastF
   refine wpOp_step rfl fun K hK=> ?_
   go_simp
   exact hK _ _ ⟨_,_,_,_,_,_,_,_,_,_,_,_,_,gz,r,c,ax,cx,n,q1,rfl,rfl,(by simp),(by simp),iT,(HA.out.lastE 0 rfl).out⟩
  |11,hg=>
   clear hi
   simp [Region.binds] at hg
   obtain rfl:b8=true:=by simp [hg]
   obtain⟨rfl,rfl,rfl,rfl,rfl,rfl,rfl,rfl⟩:b0=true∧b1=true∧b2=true∧b3=true∧b4=true∧b5=true∧b6=true∧b7=true:=by simp [hg]
   obtain rfl:b11=false:=by simp [hg]
   refine wpOp_step rfl fun K hK=> ?_
   go_simp
   exact hK _ _ ⟨_,_,_,_,_,_,_,_,_,_,_,_,_,gz,r,c,ax,cx,n,q1,rfl,rfl,(by simp),(by simp),iT,HA.out⟩
  |12,hg=>
   clear hi
   simp [Region.binds] at hg
   obtain rfl:b8=true:=by simp [hg]
   obtain⟨rfl,rfl,rfl,rfl,rfl,rfl,rfl,rfl⟩:b0=true∧b1=true∧b2=true∧b3=true∧b4=true∧b5=true∧b6=true∧b7=true:=by simp [hg]
   obtain rfl:b11=true:=by simp [hg]
   obtain rfl:b12=false:=by simp [hg]
   obtain⟨zn,zp,zt,zr,-⟩:=HA.out.fs
   have yn:=HA.out.fw 0 rfl
   refine wpOp_step rfl fun K hK=> ?_
   go_simp
   exact hK _ _ ⟨_,_,_,_,_,_,_,_,_,_,_,_,_,gz,r,c,ax,cx,n,q1,rfl,rfl,(by simp),(by simp),iT,(HA.out.setc2 0 rfl _).out⟩
  |i+13,hg=>obtain⟨_,o,ho,_⟩:=hg;exact absurd ho (by simp)
end
section
open Go.RowKit
attribute [local go_sem] aa8 aa9 ab0 ab1 ab2 ab3
attribute [local go_sem ↓] Go.wp_at_zero Go.wp_at_succ
def ChdR (E:PE) (R:(x:Fn)→PM x.Out) (of:ByteArray) (F:Nat→Prop) (w:World) (p:Ps) (T:Res Nd) (k:Nat) (wr:World):Prop:=
 ∃(l:List Kd) (q:Ps) (v:Value),Hid (ag9 E.s R of p.at' k (l.map (·.1)) q=T)∧Hid (Sa E F X0 w wr q [KB (w.heap.size+1+1) v p.at',(w.heap.size,true,.p E.b),(w.heap.size+1,true,.z)] [] (some (v,l)))
theorem S.childrenX {E:PE} {R:(x:Fn)→PM x.Out} (hR:Env E R) {F:Nat→Prop} {w:World} {p:Ps} (f:Nat) (of:ByteArray) (h:St E F w p) (hne:an0 E.s f R of p≠ .out):
  Calls Tryz.prog 260 #[.pointer (some ⟨E.b,0,none⟩),.string of] w (Ans E F X0 w (an0 E.s f R of p) fun n v w'=>IsP E F w' n v):=by
 obtain⟨T,hT⟩: ∃T,an0 E.s f R of p=T:=⟨_,rfl⟩
 rw [hT] at hne⊢
 unfold an0 at hT
 have HT:=hJ hT
 have HN:=hJ hne
 have HA:=Sa.start0 (X:=X0) h
 clear h hne hT
 replace HT:=hget HT
 have cEat:=HA.out.c_at
 have lE:=HA.out.lt
 go_enter Tryz.func260,Tryz.ntmps260
 go_wp2_with fail
 replace HA:=HA.out.pP (g:=w.heap.size) rfl
 replace HA:=HA.out.pZ (g:=(w.heap.size+1)) (by simp)
 replace HA:=HA.out.p5 (g:=(w.heap.size+2)) (by simp) (.int .i64 56) (.string ⟨#[]⟩) (.slice none 0 0) (.int .i64 p.at') (.int .i64 0) 26
 clear cEat lE
 replace HA:=HA.out.row0
 go_loopg [18,32,59] f (fun k _ _ _ wr=>ChdR E R of F w p T k wr)
 case atStart=>exact⟨[],_,_,HT,HA.out.pick [0,2,1] [] (by decide)⟩
 case round=>
  clear HT HA
  obtain⟨l,q,v,HT,HA⟩:=hrel
  cases gk with
  |zero=>exact absurd HT.out.symm HN.out
  |succ k=>
   unfold ag9 at HT
   by_cases hbig:4194304<(l.map (·.1)).length
   ·rw [if_pos hbig] at HT
    exact absurd HT.out.symm HN.out
   rw [if_neg hbig] at HT
   have hlen:l.length≤4194304:=by rw [List.length_map] at hbig;omega
   obtain⟨sa,sc,rfl⟩:=HA.out.rowform
   clear hbig
   have n1:(l.length:Int)<((l.length+1:Nat):Int):=by omega
   have n2:(l.length:Int)<(l.length:Int)+1:=by omega
   have n3:(0:Int)≤(l.length:Int):=by omega
   obtain⟨gn,hgn⟩: ∃g,w.heap.size+1+1=g:=⟨_,rfl⟩
   rw [hgn] at HA⊢
   obtain⟨gr,hgr⟩: ∃g,w.heap.size+1=g:=⟨_,rfl⟩
   rw [hgr] at HA⊢
   obtain⟨gp,hgp⟩: ∃g,w.heap.size=g:=⟨_,rfl⟩
   rw [hgp] at HA⊢
   have Hgn:=hJ hgn
   have Hgr:=hJ hgr
   have Hgp:=hJ hgp
   clear hgn hgr hgp
   obtain⟨zn,zpb,zr,-⟩:=HA.out.fs
   have yr:=HA.out.fw 2 rfl
   go_wp2_with fail
   refine HA.out.stepV HT HN (fun _ h e=>P.peek4 hR.ok h.s e) ?_ ?_
   ·intro _ _ _ H;go_wp2_with fail;exact⟨rfl,Ans.badh H⟩
   clear zn zpb zr yr HT HA
   intro t q1 w1 HT HA
   obtain⟨zn,zpb,zr,-⟩:=HA.out.fs
   have yr:=HA.out.fw 2 rfl
   by_cases hk11:t.kind=11
   ·have hk11w:=kt hk11
    replace HT:=hpos HT (by exact hk11)
    have hk11':=hJ hk11
    clear hk11
    go_upto_region 5 with fail
    replace HA:=HA.out.pT (g:=w1.heap.size) rfl t
    clear zn zpb zr yr
    generalize (w1.alloc (.cells #[.int .i64 t.kind,.string t.text,.int .i64 t.from',.int .i64 t.till,.bool t.line] 54))=w2 at*
    obtain⟨zt,zn,zpb,zr,-⟩:=HA.out.fs
    have yr:=HA.out.fw 3 rfl
    clear zt zn zpb zr yr
    replace HA:=hJ (HA.out.pick [1,2,0,3] [] (by decide))
    dsimp only [pick,nth] at HA
    rcases al8 HT HN with ⟨u,q2,HX,hk⟩|⟨c,i,HX,hk⟩
    rotate_left
    ·have hz:=HX.out
     unfold ad9 at hz
     split at hz<;>cases hz
    replace HT:=hk
    clear hk
    obtain⟨nn,hnn⟩: ∃n,af5 54 u=n:=⟨_,rfl⟩
    rw [hnn] at HT
    have HQ:=hJ hnn
    clear hnn
    replace HA:=HA.out.drew
    generalize ha0:Act.mk _ _=a0
    refine ay6 (by kernel_rfl) (by kernel_rfl) (fun listed a W=> ∃(b0 b1 b2 b3 b4 b5 b6 b7 b8 b9 b10 b11:Bool) (gz:Nat) (r:Nat) (c:Nat) (ax:Option Addr) (cx:Nat),listed= #[b0,b1,b2,b3,b4,b5,b6,b7,b8,b9,b10,b11]∧a= { tmps:=((((((((((a0.tmps.setIfInBounds 22 (bif b0 then .pointer (some ⟨gn,2,none⟩) else a0.tmps.getD 22 undef)).setIfInBounds 23 (bif b1 then (.slice sa l.length sc) else a0.tmps.getD 23 undef)).setIfInBounds 24 (bif b2 then .pointer (some ⟨E.b,0,none⟩) else a0.tmps.getD 24 undef)).setIfInBounds 25 (bif b3 then .agg #[.int .i64 u.kind,.string u.text,.int .i64 u.from',.int .i64 u.till,.bool u.line] else a0.tmps.getD 25 undef)).setIfInBounds 26 (bif b4 then .agg #[.int .i64 nn.kind,.string nn.text,.slice ax nn.kids.length cx,.int .i64 nn.from',.int .i64 nn.till] else a0.tmps.getD 26 undef)).setIfInBounds 27 (bif b5 then .int .i64 l.length else a0.tmps.getD 27 undef)).setIfInBounds 28 (bif b6 then .slice (some ⟨gz,0,none⟩) 1 1 else a0.tmps.getD 28 undef)).setIfInBounds 29 (bif b7 then (.slice (some ⟨r,0,none⟩) (l.length+1) c) else a0.tmps.getD 29 undef)).setIfInBounds 30 (bif b8 then .pointer (some ⟨r,l.length*5,none⟩) else a0.tmps.getD 30 undef)).setIfInBounds 31 (bif b10 then .pointer (some ⟨gn,2,none⟩) else a0.tmps.getD 31 undef)),defers:=a0.defers } ∧(b7=true→(b0 && b1 && b2 && b3 && b4 && b5 && b6)=true)∧((b8||b9||b10||b11)=true→b7=true)∧Sa E F X0 w W (bif b3 then q2 else q1) (KB gn (bif b11 then (.slice (some ⟨r,0,none⟩) (l.length+1) c) else (.slice sa l.length sc)) p.at'::(gp,true,.p E.b)::(w1.heap.size,true,.tk t)::(gr,true,.z)::(bif b6 then [(gz,true,.z)] else [])) (bif b4 then [(nn,ax,cx)] else []) (some (bif b7 then (.slice (some ⟨r,0,none⟩) (l.length+1) c) else (.slice sa l.length sc),bif b7 then l++ [bif b9 then (nn,ax,cx) else (Nd.zero,none,0)] else l))) ?_ ?_ ?_
    ·exact⟨_,_,_,_,_,_,_,_,_,_,_,_,0,0,0,none,0,rfl,(by kernel_rfl),(by simp),(by simp),HA.out⟩
    ·rintro a a1 W ⟨b0,b1,b2,b3,b4,b5,b6,b7,b8,b9,b10,b11,gz,r,c,ax,cx,h1,rfl,i8,i9,hS⟩ hfr
     have h2: [true,true,true,true,true,true,true,true,true,true,true,true]= [b0,b1,b2,b3,b4,b5,b6,b7,b8,b9,b10,b11]:=congrArg Array.toList h1
     simp only [List.cons.injEq,and_true] at h2
     obtain⟨rfl,rfl,rfl,rfl,rfl,rfl,rfl,rfl,rfl,rfl,rfl,rfl⟩:=h2
     clear h1
     have HA:=hJ hS
     clear hS
     replace HA:=HA.out.pick [0,1,3] [] (by decide)
     dsimp only [pick,nth,cond_true] at HA
     generalize W=w8 at*
     subst ha0
     simp only [List.setIfInBounds_toArray,List.set_cons_succ,List.set_cons_zero,Array.getD_eq_getD_getElem?,List.getElem?_toArray,List.getElem?_cons_succ,List.getElem?_cons_zero,Option.getD_some,cond_true] at hfr
     subst hfr
     go_wp2_with fail
     have hgn:=Hgn.out
     have hgr:=Hgr.out
     have hgp:=Hgp.out
     subst hgn hgr hgp
     go_roundg k
     case measure=>exact Nat.lt_succ_self k
     case rel=>
      exact⟨l++ [(nn,ax,cx)],_,_,by rw [List.map_append];exact HT,HA⟩
    ·clear HA
     rintro listed a a1 W i ⟨b0,b1,b2,b3,b4,b5,b6,b7,b8,b9,b10,b11,gz,r,c,ax,cx,rfl,rfl,i8,i9,hS⟩ hfr hi
     rw [mem_ready] at hi
     have HA:=hJ hS
     clear hS
     subst ha0
     simp only [List.setIfInBounds_toArray,List.set_cons_succ,List.set_cons_zero,Array.getD_eq_getD_getElem?,List.getElem?_toArray,List.getElem?_cons_succ,List.getElem?_cons_zero,Option.getD_some] at hfr
     subst hfr
     match i,hi with
     |0,hg=>
      clear hi
      simp [Region.binds] at hg
      obtain⟨rfl,rfl,rfl,rfl,rfl⟩:=al6 i8 i9 (by simp [hg])
      obtain rfl:b0=false:=by simp [hg]
      refine wpOp_step rfl fun K hK=> ?_
      go_simp
      exact hK _ _ ⟨_,_,_,_,_,_,_,_,_,_,_,_,gz,r,c,ax,cx,rfl,(by kernel_rfl),(by simp),(by simp),HA.out⟩
     |1,hg=>
      clear hi
      simp [Region.binds] at hg
      obtain⟨rfl,rfl,rfl,rfl,rfl⟩:=al6 i8 i9 (by simp [hg])
      obtain rfl:b0=true:=by simp [hg]
      obtain rfl:b1=false:=by simp [hg]
      obtain⟨zn,zp,zt,zr,-⟩:=HA.out.fs
      have yn:=HA.out.fw 0 rfl
      refine wpOp_step rfl fun K hK=> ?_
      go_simp
      exact hK _ _ ⟨_,_,_,_,_,_,_,_,_,_,_,_,gz,r,c,ax,cx,rfl,(by kernel_rfl),(by simp),(by simp),HA.out⟩
     |2,hg=>
      clear hi
      simp [Region.binds] at hg
      obtain⟨rfl,rfl,rfl,rfl,rfl⟩:=al6 i8 i9 (by simp [hg])
      obtain rfl:b2=false:=by simp [hg]
      obtain⟨zn,zp,zt,zr,-⟩:=HA.out.fs
      have yn:=HA.out.fw 0 rfl
      refine wpOp_step rfl fun K hK=> ?_
      go_simp
      exact hK _ _ ⟨_,_,_,_,_,_,_,_,_,_,_,_,gz,r,c,ax,cx,rfl,(by kernel_rfl),(by simp),(by simp),HA.out⟩
     |3,hg=>
      clear hi
      simp [Region.binds] at hg
      obtain⟨rfl,rfl,rfl,rfl,rfl⟩:=al6 i8 i9 (by simp [hg])
      obtain rfl:b2=true:=by simp [hg]
      obtain rfl:b3=false:=by simp [hg]
      refine wpOp_step rfl fun K hK=> ?_
      go_simp
      refine HA.out.gotV HX (fun _ h e=>P.take hR.ok h.s e) ?_
      intro w7 HA
      exact hK _ _ ⟨_,_,_,_,_,_,_,_,_,_,_,_,gz,r,c,ax,cx,rfl,(by kernel_rfl),(by simp),(by simp),HA.out⟩
     |4,hg=>
      clear hi
      simp [Region.binds] at hg
      obtain⟨rfl,rfl,rfl,rfl,rfl⟩:=al6 i8 i9 (by simp [hg])
      obtain rfl:b3=true:=by simp [hg]
      obtain rfl:b4=false:=by simp [hg]
      refine wpOp_step rfl fun K hK=> ?_
      go_simp
      refine HA.out.gotleaf 54 u HQ ?_
      intro ax cx w7 HA
      exact hK _ _ ⟨_,_,_,_,_,_,_,_,_,_,_,_,gz,r,c,ax,cx,rfl,(by kernel_rfl),(by simp),(by simp),HA.out⟩
     |5,hg=>
      clear hi
      simp [Region.binds] at hg
      obtain⟨rfl,rfl,rfl,rfl,rfl⟩:=al6 i8 i9 (by simp [hg])
      obtain rfl:b1=true:=by simp [hg]
      obtain rfl:b5=false:=by simp [hg]
      refine wpOp_step rfl fun K hK=> ?_
      go_simp
      exact hK _ _ ⟨_,_,_,_,_,_,_,_,_,_,_,_,gz,r,c,ax,cx,rfl,(by kernel_rfl),(by simp),(by simp),HA.out⟩
     |6,hg=>
      clear hi
      simp [Region.binds] at hg
      obtain⟨rfl,rfl,rfl,rfl,rfl⟩:=al6 i8 i9 (by simp [hg])
      obtain rfl:b6=false:=by simp [hg]
      refine wpOp_step rfl fun K hK=> ?_
      go_simp
      exact hK _ _ ⟨_,_,_,_,_,_,_,_,_,_,_,_,W.heap.size,r,c,ax,cx,rfl,(by kernel_rfl),(by simp),(by simp),(HA.out.pZ rfl).out.back.out⟩
     |7,hg=>
      clear hi
      simp [Region.binds] at hg
      obtain⟨rfl,rfl,rfl,rfl,rfl,rfl,rfl⟩:b0=true∧b1=true∧b2=true∧b3=true∧b4=true∧b5=true∧b6=true:=by simp [hg]
      obtain rfl:b7=false:=by simp [hg]
      obtain⟨rfl,rfl,rfl,rfl⟩:=ba5 i9
      refine wpOp_step rfl fun K hK=> ?_
      refine aF8 (l:=l) (v:=(.slice sa l.length sc)) (by rfl) _ _ _ (by rfl) (by kernel_rfl) al4 HA.out 4 rfl (by rfl) (by rfl) (by omega) ?_
      intro r c w1 HA
      exact hK _ _ ⟨_,_,_,_,_,_,_,_,_,_,_,_,gz,r,c,ax,cx,rfl,(by kernel_rfl),(by simp),(by simp),HA.out⟩
     |8,hg=>
      clear hi
      simp [Region.binds] at hg
      obtain⟨rfl,rfl,rfl,rfl,rfl,rfl,rfl,rfl⟩:b0=true∧b1=true∧b2=true∧b3=true∧b4=true∧b5=true∧b6=true∧b7=true:=by simp [hg]
      obtain rfl:b8=false:=by simp [hg]
      refine wpOp_step rfl fun K hK=> ?_
      go_simp
      exact hK _ _ ⟨_,_,_,_,_,_,_,_,_,_,_,_,gz,r,c,ax,cx,rfl,(by kernel_rfl),(by simp),(by simp),HA.out⟩
     |9,hg=>
      clear hi
      simp [Region.binds] at hg
      obtain⟨rfl,rfl,rfl,rfl,rfl,rfl,rfl,rfl⟩:b0=true∧b1=true∧b2=true∧b3=true∧b4=true∧b5=true∧b6=true∧b7=true:=by simp [hg]
      obtain rfl:b8=true:=by simp [hg]
      obtain rfl:b9=false:=by simp [hg]
      obtain⟨⟨fr0,fr1,fr2,fr3,fr4⟩,c0,c1,c2,c3,c4,lr9⟩:=HA.out.lastF
      refine wpOp_step rfl fun K hK=> ?_
      go_simp
      exact hK _ _ ⟨_,_,_,_,_,_,_,_,_,_,_,_,gz,r,c,ax,cx,rfl,(by kernel_rfl),(by simp),(by simp),(HA.out.lastE 0 rfl).out⟩
     |10,hg=>
      clear hi
      simp [Region.binds] at hg
      obtain⟨rfl,rfl,rfl,rfl,rfl,rfl,rfl,rfl⟩:b0=true∧b1=true∧b2=true∧b3=true∧b4=true∧b5=true∧b6=true∧b7=true:=by simp [hg]
      obtain rfl:b10=false:=by simp [hg]
      refine wpOp_step rfl fun K hK=> ?_
      go_simp
      exact hK _ _ ⟨_,_,_,_,_,_,_,_,_,_,_,_,gz,r,c,ax,cx,rfl,(by kernel_rfl),(by simp),(by simp),HA.out⟩
     |11,hg=>
      clear hi
      simp [Region.binds] at hg
      obtain⟨rfl,rfl,rfl,rfl,rfl,rfl,rfl,rfl⟩:b0=true∧b1=true∧b2=true∧b3=true∧b4=true∧b5=true∧b6=true∧b7=true:=by simp [hg]
      obtain rfl:b10=true:=by simp [hg]
      obtain rfl:b11=false:=by simp [hg]
      obtain⟨zn,zp,zt,zr,-⟩:=HA.out.fs
      have yn:=HA.out.fw 0 rfl
      refine wpOp_step rfl fun K hK=> ?_
      go_simp
      exact hK _ _ ⟨_,_,_,_,_,_,_,_,_,_,_,_,gz,r,c,ax,cx,rfl,(by kernel_rfl),(by simp),(by simp),(HA.out.setc2 0 rfl _).out⟩
     |i+12,hg=>obtain⟨_,o,ho,_⟩:=hg;exact absurd ho (by simp)
   ·have hk11w:=kf hk11
    replace HT:=hneg HT (by exact hk11)
    go_wp2_with fail
    replace HA:=HA.out.pT (g:=w1.heap.size) rfl t
    refine HA.out.stepQ (fun _ h=>P.punct t ⟨#[123]⟩ _) ?_
    clear zn zpb zr yr HA
    intro w2 HA
    obtain⟨zt,zn,zpb,zr,-⟩:=HA.out.fs
    have yr:=HA.out.fw 3 rfl
    cases hb:punctT t ⟨#[123]⟩ with
    |true=>
     replace HT:=hpos HT (by rw [hb])
     go_wp2_with fail
     refine HA.out.stepV HT HN (fun _ h e=>P.take hR.ok h.s e) ?_ ?_
     ·intro _ _ _ H;go_wp2_with fail;exact⟨rfl,Ans.badh H⟩
     clear zt zn zpb zr yr HT HA
     intro _ q3 w3 HT HA
     obtain⟨zt,zn,zpb,zr,-⟩:=HA.out.fs
     have yr:=HA.out.fw 3 rfl
     go_wp2_with fail
     replace HA:=HA.out.pZ (g:=w3.heap.size) rfl
     refine HA.out.stepV HT HN (fun _ h e=>P.peek hR.ok 2 h.s e) ?_ ?_
     ·intro _ _ _ H;go_wp2_with fail;exact⟨rfl,Ans.badh H⟩
     clear zt zn zpb zr yr HT HA
     intro u2 q4 w4 HT HA
     obtain⟨zx,zt,zn,zpb,zr,-⟩:=HA.out.fs
     have yx:=HA.out.fw 0 rfl
     have yr:=HA.out.fw 4 rfl
     go_wp2_with fail
     refine HA.out.stepQ (fun _ h=>P.punct u2 ⟨#[125]⟩ _) ?_
     clear zx zt zn zpb zr yx yr HA
     intro w5 HA
     obtain⟨zx,zt,zn,zpb,zr,-⟩:=HA.out.fs
     have yx:=HA.out.fw 0 rfl
     have yr:=HA.out.fw 4 rfl
     cases hc:punctT u2 ⟨#[125]⟩
     focus
      replace HT:=hneg HT (by rw [hc];decide)
      go_wp2_with fail
      refine HA.out.stepN HT HN (fun _ h e=>hR.h .inner _ _ _ h.s e) ?_ ?_
      ·intro _ _ _ H;go_wp2_with fail;exact⟨rfl,Ans.badh H⟩
      clear zx zt zn zpb zr yx yr HT HA
      intro x ax cx q6 w6 HT HA
      obtain⟨zx,zt,zn,zpb,zr,-⟩:=HA.out.fs
      have yx:=HA.out.fw 0 rfl
      have yr:=HA.out.fw 4 rfl
      go_upto_region 11 with fail
      replace HA:=HA.out.setN 0 0 rfl rfl rfl
      clear zx zt zn zpb zr yx yr
      obtain⟨w7,e8,HA⟩:=HA
      rw [e8]
      clear e8
      dsimp only [ac9] at HA
      obtain⟨zx,zt,zn,zpb,zr,-⟩:=HA.out.fs
      have yx:=HA.out.fw 0 rfl
      have yr:=HA.out.fw 4 rfl
      go_wp2_with fail
      refine HA.out.stepV HT HN (fun _ h e=>P.want hR.ok ⟨#[125]⟩ h.s e) ?_ ?_
      ·intro _ _ _ H;go_wp2_with fail;exact⟨rfl,Ans.badh H⟩
      clear zx zt zn zpb zr yx yr HT HA
      intro _ q51 w51 HT HA
      obtain⟨zx,zt,zn,zpb,zr,-⟩:=HA.out.fs
      have yx:=HA.out.fw 0 rfl
      have yr:=HA.out.fw 4 rfl
      go_wp2_with fail
     rotate_left
     focus
      replace HT:=hpos HT (by rw [hc])
      go_wp2_with fail
      clear zx zt zn zpb zr yx yr
      obtain⟨x,ax,cx,hx,HA⟩: ∃(x:Nd) (ax:Option Addr) (cx:Nat),x=Nd.zero∧Hid (Sa E F X0 w w5 q4 [(w3.heap.size,true,.nd x ax cx),(w1.heap.size,true,.tk t),(gn,true,.c5 (.int .i64 56) (.string ⟨#[]⟩) (.slice sa l.length sc) (.int .i64 p.at') (.int .i64 0) 26),(gp,true,.p E.b),(gr,true,.z)] [(x,ax,cx)] (some (.slice sa l.length sc,l))):=⟨Nd.zero,none,0,rfl,HA.out.zero⟩
      rw [←hx] at HT
      clear hx
      obtain⟨zx,zt,zn,zpb,zr,-⟩:=HA.out.fs
      have yx:=HA.out.fw 0 rfl
      have yr:=HA.out.fw 4 rfl
      refine HA.out.stepV HT HN (fun _ h e=>P.want hR.ok ⟨#[125]⟩ h.s e) ?_ ?_
      ·intro _ _ _ H;go_wp2_with fail;exact⟨rfl,Ans.badh H⟩
      clear zx zt zn zpb zr yx yr HT HA
      intro _ q51 w51 HT HA
      obtain⟨zx,zt,zn,zpb,zr,-⟩:=HA.out.fs
      have yx:=HA.out.fw 0 rfl
      have yr:=HA.out.fw 4 rfl
      go_wp2_with fail
     all_goals
      go_upto_region 12 with fail
      clear zx zt zn zpb zr yx yr
      generalize w51=w52 at*
      obtain⟨zx,zt,zn,zpb,zr,-⟩:=HA.out.fs
      have yx:=HA.out.fw 0 rfl
      have yr:=HA.out.fw 4 rfl
      clear zx zt zn zpb zr yx yr
      replace HA:=hJ (HA.out.pick [2,3,1,4,0] [0] (by decide))
      dsimp only [pick,nth] at HA
      replace HT:=aS5 HT
      generalize hqm:Nd.mk 52 ⟨#[]⟩ [x] t.from' q51.at'=m at HT
      have HQ:=hJ hqm
      clear hqm
      replace HA:=HA.out.drew
      generalize ha0:Act.mk _ _=a0
      refine ay6 (by kernel_rfl) (by kernel_rfl) (fun listed a W=> ∃(b0 b1 b2 b3 b4 b5 b6 b7 b8 b9 b10 b11 b12 b13 b14:Bool) (gy:Nat) (gz:Nat) (r:Nat) (c:Nat) (am:Option Addr) (cm:Nat),listed= #[b0,b1,b2,b3,b4,b5,b6,b7,b8,b9,b10,b11,b12,b13,b14]∧a= { tmps:=(((((((((((((a0.tmps.setIfInBounds 46 (bif b0 then .pointer (some ⟨gn,2,none⟩) else a0.tmps.getD 46 undef)).setIfInBounds 47 (bif b1 then (.slice sa l.length sc) else a0.tmps.getD 47 undef)).setIfInBounds 48 (bif b2 then .pointer (some ⟨E.b,0,none⟩) else a0.tmps.getD 48 undef)).setIfInBounds 49 (bif b3 then .pointer (some ⟨w1.heap.size,2,none⟩) else a0.tmps.getD 49 undef)).setIfInBounds 50 (bif b4 then .int .i64 t.from' else a0.tmps.getD 50 undef)).setIfInBounds 51 (bif b5 then .agg #[.int .i64 x.kind,.string x.text,.slice ax x.kids.length cx,.int .i64 x.from',.int .i64 x.till] else a0.tmps.getD 51 undef)).setIfInBounds 52 (bif b6 then .slice (some ⟨gy,0,none⟩) 1 1 else a0.tmps.getD 52 undef)).setIfInBounds 53 (bif b7 then .agg #[.int .i64 m.kind,.string m.text,.slice am m.kids.length cm,.int .i64 m.from',.int .i64 m.till] else a0.tmps.getD 53 undef)).setIfInBounds 54 (bif b8 then .int .i64 l.length else a0.tmps.getD 54 undef)).setIfInBounds 55 (bif b9 then .slice (some ⟨gz,0,none⟩) 1 1 else a0.tmps.getD 55 undef)).setIfInBounds 56 (bif b10 then (.slice (some ⟨r,0,none⟩) (l.length+1) c) else a0.tmps.getD 56 undef)).setIfInBounds 57 (bif b11 then .pointer (some ⟨r,l.length*5,none⟩) else a0.tmps.getD 57 undef)).setIfInBounds 58 (bif b13 then .pointer (some ⟨gn,2,none⟩) else a0.tmps.getD 58 undef)),defers:=a0.defers } ∧(b10=true→(b0 && b1 && b2 && b3 && b4 && b5 && b6 && b7 && b8 && b9)=true)∧((b11||b12||b13||b14)=true→b10=true)∧(b7=true→b6=true)∧Sa E F X0 w W q51 (KB gn (bif b14 then (.slice (some ⟨r,0,none⟩) (l.length+1) c) else (.slice sa l.length sc)) p.at'::(gp,true,.p E.b)::(w1.heap.size,true,.tk t)::(gr,true,.z)::(w3.heap.size,true,.nd x ax cx)::((bif b6 then bif b7 then [] else [(gy,true,.nd x ax cx)] else [])++(bif b9 then [(gz,true,.z)] else []))) (bif b7 then [(m,am,cm),(x,ax,cx)] else [(x,ax,cx)]) (some (bif b10 then (.slice (some ⟨r,0,none⟩) (l.length+1) c) else (.slice sa l.length sc),bif b10 then l++ [bif b12 then (m,am,cm) else (Nd.zero,none,0)] else l))) ?_ ?_ ?_
      ·exact⟨_,_,_,_,_,_,_,_,_,_,_,_,_,_,_,0,0,0,0,none,0,rfl,(by kernel_rfl),(by simp),(by simp),(by first|exact i7|simp),HA.out⟩
      ·rintro a a1 W ⟨b0,b1,b2,b3,b4,b5,b6,b7,b8,b9,b10,b11,b12,b13,b14,gy,gz,r,c,am,cm,h1,rfl,i8,i9,i7,hS⟩ hfr
       have h2: [true,true,true,true,true,true,true,true,true,true,true,true,true,true,true]= [b0,b1,b2,b3,b4,b5,b6,b7,b8,b9,b10,b11,b12,b13,b14]:=congrArg Array.toList h1
       simp only [List.cons.injEq,and_true] at h2
       obtain⟨rfl,rfl,rfl,rfl,rfl,rfl,rfl,rfl,rfl,rfl,rfl,rfl,rfl,rfl,rfl⟩:=h2
       clear h1
       have HA:=hJ hS
       clear hS
       replace HA:=HA.out.pick [0,1,3] [] (by decide)
       dsimp only [pick,nth,cond_true] at HA
       generalize W=w8 at*
       subst ha0
       simp only [List.setIfInBounds_toArray,List.set_cons_succ,List.set_cons_zero,Array.getD_eq_getD_getElem?,List.getElem?_toArray,List.getElem?_cons_succ,List.getElem?_cons_zero,Option.getD_some,cond_true] at hfr
       subst hfr
       go_wp2_with fail
       have hgn:=Hgn.out
       have hgr:=Hgr.out
       have hgp:=Hgp.out
       subst hgn hgr hgp
       go_roundg k
       case measure=>exact Nat.lt_succ_self k
       case rel=>
        exact⟨l++ [(m,am,cm)],_,_,by rw [List.map_append];exact HT,HA⟩
      ·clear HA
       rintro listed a a1 W i ⟨b0,b1,b2,b3,b4,b5,b6,b7,b8,b9,b10,b11,b12,b13,b14,gy,gz,r,c,am,cm,rfl,rfl,i8,i9,i7,hS⟩ hfr hi
       rw [mem_ready] at hi
       have HA:=hJ hS
       clear hS
       subst ha0
       simp only [List.setIfInBounds_toArray,List.set_cons_succ,List.set_cons_zero,Array.getD_eq_getD_getElem?,List.getElem?_toArray,List.getElem?_cons_succ,List.getElem?_cons_zero,Option.getD_some] at hfr
       subst hfr
       match i,hi with
       |0,hg=>
        clear hi
        simp [Region.binds] at hg
        obtain⟨rfl,rfl,rfl,rfl,rfl⟩:=al6 i8 i9 (by simp [hg])
        obtain rfl:b0=false:=by simp [hg]
        refine wpOp_step rfl fun K hK=> ?_
        go_simp
        exact hK _ _ ⟨_,_,_,_,_,_,_,_,_,_,_,_,_,_,_,gy,gz,r,c,am,cm,rfl,(by kernel_rfl),(by simp),(by simp),(by first|exact i7|simp),HA.out⟩
       |1,hg=>
        clear hi
        simp [Region.binds] at hg
        obtain⟨rfl,rfl,rfl,rfl,rfl⟩:=al6 i8 i9 (by simp [hg])
        obtain rfl:b0=true:=by simp [hg]
        obtain rfl:b1=false:=by simp [hg]
        obtain⟨zn,zp,zt,zr,zx,-⟩:=HA.out.fs
        have yn:=HA.out.fw 0 rfl
        refine wpOp_step rfl fun K hK=> ?_
        go_simp
        exact hK _ _ ⟨_,_,_,_,_,_,_,_,_,_,_,_,_,_,_,gy,gz,r,c,am,cm,rfl,(by kernel_rfl),(by simp),(by simp),(by first|exact i7|simp),HA.out⟩
       |2,hg=>
        clear hi
        simp [Region.binds] at hg
        obtain⟨rfl,rfl,rfl,rfl,rfl⟩:=al6 i8 i9 (by simp [hg])
        obtain rfl:b2=false:=by simp [hg]
        obtain⟨zn,zp,zt,zr,zx,-⟩:=HA.out.fs
        have yn:=HA.out.fw 0 rfl
        refine wpOp_step rfl fun K hK=> ?_
        go_simp
        exact hK _ _ ⟨_,_,_,_,_,_,_,_,_,_,_,_,_,_,_,gy,gz,r,c,am,cm,rfl,(by kernel_rfl),(by simp),(by simp),(by first|exact i7|simp),HA.out⟩
       |3,hg=>
        clear hi
        simp [Region.binds] at hg
        obtain⟨rfl,rfl,rfl,rfl,rfl⟩:=al6 i8 i9 (by simp [hg])
        obtain rfl:b3=false:=by simp [hg]
        refine wpOp_step rfl fun K hK=> ?_
        go_simp
        exact hK _ _ ⟨_,_,_,_,_,_,_,_,_,_,_,_,_,_,_,gy,gz,r,c,am,cm,rfl,(by kernel_rfl),(by simp),(by simp),(by first|exact i7|simp),HA.out⟩
       |4,hg=>
        clear hi
        simp [Region.binds] at hg
        obtain⟨rfl,rfl,rfl,rfl,rfl⟩:=al6 i8 i9 (by simp [hg])
        obtain rfl:b3=true:=by simp [hg]
        obtain rfl:b4=false:=by simp [hg]
        obtain⟨zn,zp,zt,zr,zx,-⟩:=HA.out.fs
        have yn:=HA.out.fw 0 rfl
        refine wpOp_step rfl fun K hK=> ?_
        go_simp
        exact hK _ _ ⟨_,_,_,_,_,_,_,_,_,_,_,_,_,_,_,gy,gz,r,c,am,cm,rfl,(by kernel_rfl),(by simp),(by simp),(by first|exact i7|simp),HA.out⟩
       |5,hg=>
        clear hi
        simp [Region.binds] at hg
        obtain⟨rfl,rfl,rfl,rfl,rfl⟩:=al6 i8 i9 (by simp [hg])
        obtain rfl:b5=false:=by simp [hg]
        obtain⟨zn,zp,zt,zr,zx,-⟩:=HA.out.fs
        have yn:=HA.out.fw 0 rfl
        refine wpOp_step rfl fun K hK=> ?_
        go_simp
        exact hK _ _ ⟨_,_,_,_,_,_,_,_,_,_,_,_,_,_,_,gy,gz,r,c,am,cm,rfl,(by kernel_rfl),(by simp),(by simp),(by first|exact i7|simp),HA.out⟩
       |6,hg=>
        clear hi
        simp [Region.binds] at hg
        obtain⟨rfl,rfl,rfl,rfl,rfl⟩:=al6 i8 i9 (by simp [hg])
        obtain rfl:b5=true:=by simp [hg]
        obtain rfl:b6=false:=by simp [hg]
        obtain rfl:b7=false:=by
         cases b7 with
         |false=>rfl
         |true=>cases i7 rfl
        refine wpOp_step rfl fun K hK=> ?_
        go_simp
        exact hK _ _ ⟨_,_,_,_,_,_,_,_,_,_,_,_,_,_,_,W.heap.size,gz,r,c,am,cm,rfl,(by kernel_rfl),(by simp),(by simp),(by first|exact i7|simp),((HA.out.pN rfl x ax cx).out.perm (List.perm_middle (l₁:= [_,_,_,_,_]))).out⟩
       |7,hg=>
        clear hi
        simp [Region.binds] at hg
        obtain⟨rfl,rfl,rfl,rfl,rfl⟩:=al6 i8 i9 (by simp [hg])
        obtain⟨rfl,rfl,rfl⟩:b2=true∧b4=true∧b6=true:=by simp [hg]
        obtain rfl:b7=false:=by simp [hg]
        refine wpOp_step rfl fun K hK=> ?_
        go_simp
        refine bk2 HA.out 52 ⟨#[]⟩ t.from' 5 rfl 0 rfl HQ [0,1,2,3,4,6] (by decide) (by decide) (fun _ h=>h) ?_
        intro am cm w7 HA
        cases b9<;>exact hK _ _ ⟨_,_,_,_,_,_,_,_,_,_,_,_,_,_,_,gy,gz,r,c,am,cm,rfl,(by kernel_rfl),(by simp),(by simp),(by first|exact i7|simp),HA.out⟩
       |8,hg=>
        clear hi
        simp [Region.binds] at hg
        obtain⟨rfl,rfl,rfl,rfl,rfl⟩:=al6 i8 i9 (by simp [hg])
        obtain rfl:b1=true:=by simp [hg]
        obtain rfl:b8=false:=by simp [hg]
        refine wpOp_step rfl fun K hK=> ?_
        go_simp
        exact hK _ _ ⟨_,_,_,_,_,_,_,_,_,_,_,_,_,_,_,gy,gz,r,c,am,cm,rfl,(by kernel_rfl),(by simp),(by simp),(by first|exact i7|simp),HA.out⟩
       |9,hg=>
        clear hi
        simp [Region.binds] at hg
        obtain⟨rfl,rfl,rfl,rfl,rfl⟩:=al6 i8 i9 (by simp [hg])
        obtain rfl:b9=false:=by simp [hg]
        refine wpOp_step rfl fun K hK=> ?_
        go_simp
        have hz:=(HA.out.pZ rfl).out.back
        cases b6<;>cases b7<;>exact hK _ _ ⟨_,_,_,_,_,_,_,_,_,_,_,_,_,_,_,gy,W.heap.size,r,c,am,cm,rfl,(by kernel_rfl),(by simp),(by simp),(by first|exact i7|simp),hz.out⟩
       |10,hg=>
        clear hi
        simp [Region.binds] at hg
        obtain⟨rfl,rfl,rfl,rfl,rfl,rfl,rfl,rfl,rfl,rfl⟩:b0=true∧b1=true∧b2=true∧b3=true∧b4=true∧b5=true∧b6=true∧b7=true∧b8=true∧b9=true:=by simp [hg]
        obtain rfl:b10=false:=by simp [hg]
        obtain⟨rfl,rfl,rfl,rfl⟩:=ba5 i9
        refine wpOp_step rfl fun K hK=> ?_
        refine aF8 (l:=l) (v:=(.slice sa l.length sc)) (by rfl) _ _ _ (by rfl) (by kernel_rfl) al4 HA.out 5 rfl (by rfl) (by rfl) (by omega) ?_
        intro r c w1 HA
        exact hK _ _ ⟨_,_,_,_,_,_,_,_,_,_,_,_,_,_,_,gy,gz,r,c,am,cm,rfl,(by kernel_rfl),(by simp),(by simp),(by first|exact i7|simp),HA.out⟩
       |11,hg=>
        clear hi
        simp [Region.binds] at hg
        obtain⟨rfl,rfl,rfl,rfl,rfl,rfl,rfl,rfl,rfl,rfl,rfl⟩:b0=true∧b1=true∧b2=true∧b3=true∧b4=true∧b5=true∧b6=true∧b7=true∧b8=true∧b9=true∧b10=true:=by simp [hg]
        obtain rfl:b11=false:=by simp [hg]
        refine wpOp_step rfl fun K hK=> ?_
        go_simp
        exact hK _ _ ⟨_,_,_,_,_,_,_,_,_,_,_,_,_,_,_,gy,gz,r,c,am,cm,rfl,(by kernel_rfl),(by simp),(by simp),(by first|exact i7|simp),HA.out⟩
       |12,hg=>
        clear hi
        simp [Region.binds] at hg
        obtain⟨rfl,rfl,rfl,rfl,rfl,rfl,rfl,rfl,rfl,rfl,rfl⟩:b0=true∧b1=true∧b2=true∧b3=true∧b4=true∧b5=true∧b6=true∧b7=true∧b8=true∧b9=true∧b10=true:=by simp [hg]
        obtain rfl:b11=true:=by simp [hg]
        obtain rfl:b12=false:=by simp [hg]
        obtain⟨⟨fr0,fr1,fr2,fr3,fr4⟩,c0,c1,c2,c3,c4,lr9⟩:=HA.out.lastF
        refine wpOp_step rfl fun K hK=> ?_
        go_simp
        exact hK _ _ ⟨_,_,_,_,_,_,_,_,_,_,_,_,_,_,_,gy,gz,r,c,am,cm,rfl,(by kernel_rfl),(by simp),(by simp),(by first|exact i7|simp),(HA.out.lastE 0 rfl).out⟩
       |13,hg=>
        clear hi
        simp [Region.binds] at hg
        obtain⟨rfl,rfl,rfl,rfl,rfl,rfl,rfl,rfl,rfl,rfl,rfl⟩:b0=true∧b1=true∧b2=true∧b3=true∧b4=true∧b5=true∧b6=true∧b7=true∧b8=true∧b9=true∧b10=true:=by simp [hg]
        obtain rfl:b13=false:=by simp [hg]
        refine wpOp_step rfl fun K hK=> ?_
        go_simp
        exact hK _ _ ⟨_,_,_,_,_,_,_,_,_,_,_,_,_,_,_,gy,gz,r,c,am,cm,rfl,(by kernel_rfl),(by simp),(by simp),(by first|exact i7|simp),HA.out⟩
       |14,hg=>
        clear hi
        simp [Region.binds] at hg
        obtain⟨rfl,rfl,rfl,rfl,rfl,rfl,rfl,rfl,rfl,rfl,rfl⟩:b0=true∧b1=true∧b2=true∧b3=true∧b4=true∧b5=true∧b6=true∧b7=true∧b8=true∧b9=true∧b10=true:=by simp [hg]
        obtain rfl:b13=true:=by simp [hg]
        obtain rfl:b14=false:=by simp [hg]
        obtain⟨zn,zp,zt,zr,zx,-⟩:=HA.out.fs
        have yn:=HA.out.fw 0 rfl
        refine wpOp_step rfl fun K hK=> ?_
        go_simp
        exact hK _ _ ⟨_,_,_,_,_,_,_,_,_,_,_,_,_,_,_,gy,gz,r,c,am,cm,rfl,(by kernel_rfl),(by simp),(by simp),(by first|exact i7|simp),(HA.out.setc2 0 rfl _).out⟩
       |i+15,hg=>obtain⟨_,o,ho,_⟩:=hg;exact absurd ho (by simp)
    |false=>
     replace HT:=hneg HT (by rw [hb];decide)
     go_wp2_with fail
     refine HA.out.stepQ (fun _ h=>P.punct t ⟨#[60]⟩ _) ?_
     clear zt zn zpb zr yr HA
     intro w3 HA
     obtain⟨zt,zn,zpb,zr,-⟩:=HA.out.fs
     have yr:=HA.out.fw 3 rfl
     cases hl2:punctT t ⟨#[60]⟩ with
     |true=>
      replace HT:=hpos HT (by rw [hl2])
      go_wp2_with fail
      refine HA.out.stepV HT HN (fun _ h e=>P.take hR.ok h.s e) ?_ ?_
      ·intro _ _ _ H;go_wp2_with fail;exact⟨rfl,Ans.badh H⟩
      clear zt zn zpb zr yr HT HA
      intro _ q4 w4 HT HA
      obtain⟨zt,zn,zpb,zr,-⟩:=HA.out.fs
      have yr:=HA.out.fw 3 rfl
      go_wp2_with fail
      refine HA.out.stepV HT HN (fun _ h e=>P.peek5 hR.ok h.s e) ?_ ?_
      ·intro _ _ _ H;go_wp2_with fail;exact⟨rfl,Ans.badh H⟩
      clear zt zn zpb zr yr HT HA
      intro u2 q5 w5 HT HA
      obtain⟨zt,zn,zpb,zr,-⟩:=HA.out.fs
      have yr:=HA.out.fw 3 rfl
      go_wp2_with fail
      refine HA.out.stepQ (fun _ h=>P.punct u2 ⟨#[47]⟩ _) ?_
      clear zt zn zpb zr yr HA
      intro w6 HA
      obtain⟨zt,zn,zpb,zr,-⟩:=HA.out.fs
      have yr:=HA.out.fw 3 rfl
      cases hc:punctT u2 ⟨#[47]⟩ with
      |true=>
       replace HT:=hpos HT (by rw [hc])
       go_wp2_with fail
       refine HA.out.stepV HT HN (fun _ h e=>P.take hR.ok h.s e) ?_ ?_
       ·intro _ _ _ H;go_wp2_with fail;exact⟨rfl,Ans.badh H⟩
       clear zt zn zpb zr yr HT HA
       intro _ q7 w7 HT HA
       obtain⟨zt,zn,zpb,zr,-⟩:=HA.out.fs
       have yn:=HA.out.fw 1 rfl
       have yr:=HA.out.fw 3 rfl
       go_upto_region 18 with fail
       clear zt zn zpb zr yn yr
       replace HA:=HA.out.setc4 1 rfl (.int .i64 t.from')
       dsimp only [ac9] at HA
       generalize World.setCell _ _ _=w8 at*
       obtain⟨zt,zn,zpb,zr,-⟩:=HA.out.fs
       have yn:=HA.out.fw 1 rfl
       have yr:=HA.out.fw 3 rfl
       go_wp2_with fail
       refine HA.out.stepV HT HN (fun _ h e=>hR.h (.closing of t.from') _ _ _ h.s e) ?_ ?_
       ·intro _ _ _ H;go_wp2_with fail;exact⟨rfl,Ans.badh H⟩
       clear zt zn zpb zr yn yr HT HA
       intro _ q9 w9 HT HA
       obtain⟨zt,zn,zpb,zr,-⟩:=HA.out.fs
       have yn:=HA.out.fw 1 rfl
       have yr:=HA.out.fw 3 rfl
       clear zt zn zpb zr yn yr
       obtain⟨a9,c9,hv,HA⟩:=HA.out.rowN
       obtain⟨ks,hks⟩: ∃ks,l.map (·.1)=ks:=⟨_,rfl⟩
       have hkl:l.length=ks.length:=by rw [←hks,List.length_map]
       rw [hks] at HA HT hv
       rw [hkl] at HA hv
       simp only [Value.slice.injEq,true_and] at hv
       obtain⟨rfl,rfl⟩:=hv
       replace HA:=HA.out.re 0 rfl (Nd.mk 56 ⟨#[]⟩ ks p.at' t.from') rfl
       clear hks hkl
       obtain⟨zt,zn,zpb,zr,-⟩:=HA.out.fs
       have yn:=HA.out.fw 1 rfl
       have yr:=HA.out.fw 3 rfl
       go_wp2_with fail
       exact HA.out.fin_nd (n:= .mk 56 ⟨#[]⟩ ks p.at' t.from') (a:=sa) (c:=sc) 3 0 rfl rfl rfl rfl rfl HT.out.symm
      |false=>
       replace HT:=hneg HT (by rw [hc];decide)
       go_wp2_with fail
       clear zt zn zpb zr yr
       replace HA:=hJ (HA.out.pick [1,2,0,3] [] (by decide))
       dsimp only [pick,nth] at HA
       refine(P.deeperA (Q:=fun n bs ns ro=> ∃v' a c,bs= [KB gn v' p.at',(gp,true,.p E.b),(w1.heap.size,true,.tk t),(gr,true,.z)]∧ns= [(n,a,c)]∧ro=some (v',l++ [(n,a,c)])) hR.ok t.from' (fun _=>by kernel_rfl) (fun w1 q1 h e=>C.children1 hR hlen h e) HA.out (PM.ne (HT.out) HN.out)).mono ?_
       intro e w9 h1
       rcases al8 HT HN with ⟨n,q9,HX,hk⟩|⟨c,i,HX,hk⟩
       ·rw [HX.out] at h1
        obtain⟨rfl,bs,ns,ro,⟨v',a,c,rfl,rfl,rfl⟩,h9⟩:=h1
        replace HA:=hJ (Sa.pick h9 [0,1,3] [] (by decide))
        dsimp only [pick,nth] at HA
        replace HT:=hk
        clear h9 hk
        go_wp2_with fail
        have hgn:=Hgn.out
        have hgr:=Hgr.out
        have hgp:=Hgp.out
        subst hgn hgr hgp
        go_roundg k
        case measure=>exact Nat.lt_succ_self k
        case rel=>
         exact⟨l++ [(n,a,c)],_,_,by rw [List.map_append];exact HT,HA⟩
       ·rw [HX.out] at h1
        obtain⟨rfl,hp⟩:=h1
        have H:Hid (T= .bad c i∧PB E.b X0 w w9):=hJ ⟨hk.out,hp⟩
        clear hk hp
        go_wp2_with fail
        exact⟨rfl,Ans.badh H⟩
     |false=>
      replace HT:=hneg HT (by rw [hl2];decide)
      go_wp2_with fail
      have H:=HA.out.bad HT.out.symm
      refine HA.out.odd ?_
      go_wp2_with fail
      exact⟨rfl,Ans.badh H⟩
end
end Go.Proofs.YtokfgpjclmdllaaGreatDoor
