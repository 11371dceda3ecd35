/- Steps (U2). Conditions: as stated. -/
import Derived.Test.YtnobjeelihkjmaaGreatDoorZk30
import Derived.Test.YtnobjeelihkjmaaGreatDoorZk27
set_option maxHeartbeats 16000000
set_option maxRecDepth 100000
namespace Go.Proofs.YtnobjeelihkjmaaGreatDoor
section
open Go.RowKit
attribute [local go_sem] ab3 ab4 ab5 ab6 ab7 ab8
attribute [local go_sem ↓] Go.wp_at_zero Go.wp_at_succ
theorem bo2 {b c d:Bool} (h:(b||c||d)=true→false=true):b=false∧c=false∧d=false:=by
 cases b<;>cases c<;>cases d<;>simp_all
theorem ah8 {one a b c d:Bool} (h8:a=true→one=true) (h9:(b||c||d)=true→a=true) (h:one=false):a=false∧b=false∧c=false∧d=false:=by
 cases a with
 |false=>exact⟨rfl,bo2 h9⟩
 |true=>rw [h] at h8;cases h8 rfl
theorem C.object11 {E:PE} {R:(x:Fn)→PM x.Out} (hR:Env E R) {F:Nat→Prop} {w0:World} {gp gk:Nat} :
  CloL E F (fun k=>k=gk) w0 (KbR E gp gk w0.heap.size) (be0 E.s R) 310 #[.pointer (some ⟨gp,0,none⟩),.pointer (some ⟨gk,0,none⟩)]:=by
 intro kids F' w p hF0 hw0 hA h hne
 show Calls _ _ _ _ (AnsC E F (fun j=>j=gk∨w0.heap.size≤j) w _ (KbR E gp gk w0.heap.size))
 obtain⟨T,hT⟩: ∃T,be0 E.s R kids p=T:=⟨_,rfl⟩
 rw [hT] at hne⊢
 unfold be0 at hT
 have hll:kids.length≤4194304:=by
  by_cases hc:4194304<kids.length
  ·rw [if_pos hc] at hT
   exact absurd hT.symm hne
  ·omega
 rw [if_neg (by omega)] at hT
 obtain⟨l,v,hl,hmp,hbp,hmk,hbk,hkl,hgk,hgp,hbase⟩:=hA
 obtain⟨sa,sc,rfl⟩:=hkl.len
 obtain⟨i0,hi0,hz0,hz1,hz2⟩:=info_parts ak2
 have HT:=hJ hT
 have HN:=hJ hne
 have HF:=hJ hF0
 have HL:=hJ hl
 have hlen:l.length≤4194304:=by rw [←hl,List.length_map] at hll;exact hll
 have HA:Hid (ApS E F' (fun j=>j=gk∨w0.heap.size≤j) w w0.heap.size gp gk (.slice sa l.length sc) (.slice sa l.length sc) l p w):=hJ ⟨h,PB.refl E.b _ w,hmp,hbp,hmk,hbk,hkl,hgk,hgp,.inl rfl,fun j hj=> .inr hj,hbase⟩
 have n1:(l.length:Int)<((l.length+1:Nat):Int):=by omega
 have n2:(l.length:Int)<(l.length:Int)+1:=by omega
 have n3:(0:Int)≤(l.length:Int):=by omega
 clear h hne hT hF0 hl hbp hbk hkl hll hmp hmk hbase
 obtain⟨zp0,yp0⟩:=HA.out.bp.fs;obtain⟨zk0,yk0⟩:=HA.out.bk.fs;have lp:=HA.out.bp.lt;have lk:=HA.out.bk.lt
 go_enter Tryz.func310,Tryz.ntmps310
 go_wp2_with fail
 refine HA.out.stepV HT HN (fun e=>P.peek hR.ok 1 HA.out.s e) ?_ ?_
 ·intro c i W' hT' hp';go_wp2_with fail;exact⟨rfl,AnsC.bad hT' hp'⟩
 clear HT HA zp0 yp0 zk0 yk0 lp lk
 intro t q2 w2 HT HA
 obtain⟨zp0,yp0⟩:=HA.out.bp.fs;obtain⟨zk0,yk0⟩:=HA.out.bk.fs;have lp:=HA.out.bp.lt;have lk:=HA.out.bk.lt
 go_wp2_with fail
 refine HA.out.stepQ (P.punct t ⟨#[46,46,46]⟩ _) ?_
 clear HA zp0 yp0 zk0 yk0 lp lk
 intro F3 w3 h3 HA
 have HFF:=hJ h3
 clear h3
 obtain⟨zp0,yp0⟩:=HA.out.bp.fs;obtain⟨zk0,yk0⟩:=HA.out.bk.fs;have lp:=HA.out.bp.lt;have lk:=HA.out.bk.lt
 cases hb:aa2 t ⟨#[46,46,46]⟩ with
 |true=>
  rw [if_pos hb] at HT
  clear hb
  go_upto_region 1 with fail
  replace HA:=hJ HA.out.drew
  clear zp0 yp0 zk0 yk0 lp lk
  rcases PM.cases HT.out HN.out with ⟨x,q1,hx,hk⟩|⟨c,i,hx,hk⟩
  ·have HX:=hJ hx
   have hne:=PM.ne HT.out HN.out
   replace HT:=hJ hk
   clear hx hk
   generalize ha0:Act.mk _ _=a0
   refine ai8 (by kernel_rfl) (by kernel_rfl) (fun listed a W=> ∃(b0 b1 b2 b3 b4 b5 b6 b7 b8:Bool) (gz:Nat) (r:Nat) (c:Nat) (ax:Option Addr) (cx:Nat) (F1:Nat→Prop),listed= #[b0,b1,b2,b3,b4,b5,b6,b7,b8]∧a= { tmps:=(((((((a0.tmps.setIfInBounds 5 (bif b0 then (.slice sa l.length sc) else a0.tmps.getD 5 undef)).setIfInBounds 6 (bif b1 then .pointer (some ⟨E.b,0,none⟩) else a0.tmps.getD 6 undef)).setIfInBounds 7 (bif b2 then .agg #[.int .i64 x.kind,.string x.text,.slice ax x.kids.length cx,.int .i64 x.from',.int .i64 x.till] else a0.tmps.getD 7 undef)).setIfInBounds 8 (bif b3 then .int .i64 l.length else a0.tmps.getD 8 undef)).setIfInBounds 9 (bif b4 then .slice (some ⟨gz,0,none⟩) 1 1 else a0.tmps.getD 9 undef)).setIfInBounds 10 (bif b5 then (.slice (some ⟨r,0,none⟩) (l.length+1) c) else a0.tmps.getD 10 undef)).setIfInBounds 11 (bif b6 then .pointer (some ⟨r,l.length*5,none⟩) else a0.tmps.getD 11 undef)),defers:=a0.defers } ∧(b5=true→(b0 && b1 && b2 && b3 && b4)=true)∧((b6||b7||b8)=true→b5=true)∧(∀k,F' k→F1 k)∧(b2=true→b7=false→IsP E F1 W x (.agg #[.int .i64 x.kind,.string x.text,.slice ax x.kids.length cx,.int .i64 x.from',.int .i64 x.till]))∧(b4=true→b5=false→F1 gz∧ab0 W gz 0 ⟨#[]⟩ none 0 0 0 0)∧ApS E F1 (fun j=>j=gk∨w0.heap.size≤j) w w0.heap.size gp gk (bif b8 then (.slice (some ⟨r,0,none⟩) (l.length+1) c) else (.slice sa l.length sc)) (bif b5 then (.slice (some ⟨r,0,none⟩) (l.length+1) c) else (.slice sa l.length sc)) (bif b5 then l++ [bif b7 then (x,ax,cx) else (Nd.zero,none,0)] else l) (bif b2 then q1 else q2) W) ?_ ?_ ?_
   ·exact⟨_,_,_,_,_,_,_,_,_,0,0,0,none,0,_,rfl,(by kernel_rfl),(by simp),(by simp),(fun _ h=>HFF.out _ h),(fun h=>by cases h),(fun h=>by cases h),HA.out⟩
   ·rintro a a1 W ⟨b0,b1,b2,b3,b4,b5,b6,b7,b8,gz,r,c,ax,cx,F1,h1,rfl,i8,i9,iF,iN,iZ,hS⟩ hfr
    have h2: [true,true,true,true,true,true,true,true,true]= [b0,b1,b2,b3,b4,b5,b6,b7,b8]:=congrArg Array.toList h1
    simp only [List.cons.injEq,and_true] at h2
    obtain⟨rfl,rfl,rfl,rfl,rfl,rfl,rfl,rfl,rfl⟩:=h2
    clear h1
    have HA:=hJ hS
    clear hS
    generalize W=w8 at*
    subst ha0
    simp only [List.setIfInBounds_toArray,List.set_cons_succ,List.set_cons_zero,Array.getD_eq_getD_getElem?,List.getElem?_toArray,List.getElem?_cons_succ,List.getElem?_cons_zero,Option.getD_some,cond_true] at hfr
    subst hfr
    have HFF:=hJ iF
    clear iF iN iZ i8 i9
    dsimp only [cond_true] at HA
    have HS2:=hJ HA.out.s
    obtain⟨g5,cap5,hv5,k0,k1,k2,k3,k4,lg5⟩:=HA.out.k.lastc
    simp only [Value.slice.injEq,Option.some.injEq,Addr.mk.injEq,and_true,true_and] at hv5
    obtain⟨rfl,rfl⟩:=hv5
    have HI:=hJ (show IsP E F1 w8 x (.agg #[.int .i64 x.kind,.string x.text,.slice ax x.kids.length cx,.int .i64 x.from',.int .i64 x.till]) from HA.out.k.is (x,ax,cx) (by simp))
    dsimp only at k0 k1 k2 k3 k4
    have HD2:=hJ (HI.out.only (Only.refl _ _).drew HS2.out.lt HS2.out.notF)
    have HAD:=hJ HA.out.drew
    have n5:((l.length+1:Nat):Int) - 1=(l.length:Int):=by omega
    have n6:(l.length:Int)+1 - 1=(l.length:Int):=by omega
    have n7:IntKind.i64.wrap (((l.length+1:Nat):Int) - 1)=(l.length:Int):=by rw [IntKind.wrap_i64];omega
    have n9:IntKind.i64.wrap (l.length:Int)=(l.length:Int):=by rw [IntKind.wrap_i64];omega
    have n8:IntKind.i64.wrap ((l.length:Int)+1 - 1)=(l.length:Int):=by rw [IntKind.wrap_i64];omega
    obtain⟨zp0,yp0⟩:=HA.out.bp.fs
    obtain⟨zk0,yk0⟩:=HA.out.bk.fs
    have lp:=HA.out.bp.lt
    have lk:=HA.out.bk.lt
    go_wp2_with fail
    rcases PM.cases HT.out HN.out with ⟨u9,q2,hx,hk⟩|⟨c,i,hx,hk⟩
    ·have HX2:=hJ hx
     have hne2:=PM.ne HT.out HN.out
     replace HT:=hJ hk
     clear hx hk
     go_region_with (first|(go_at_call 303;refine(S.comma hR.ok x _ HD2.out HAD.out.s hne2).mono ?_;intro e w4 h1;rw [HX2.out] at h1;obtain⟨v,rfl,rfl,hs4,hp4⟩:=h1))
     all_goals
      have HA4:=hJ (HAD.out.call hs4 hp4)
      clear hs4 hp4 zp0 yp0 zk0 yk0 lp lk k0 k1 k2 k3 k4 lg5
      go_wp2_with fail
      exact bodyPost_end (results_none rfl _ _ _) rfl (AnsC.ok HT.out.symm (fun j hj=>HFF.out j (HF.out j hj)) ⟨l++ [(x,ax,cx)],_,by rw [List.map_append,HL.out];rfl,HA4.out.mp,HA4.out.bp,HA4.out.mgk,HA4.out.bk,HA4.out.k,HA4.out.lgk,HA4.out.lgp,HA4.out.bs⟩ HA4.out.s HA4.out.p)
    ·have HX2:=hJ hx
     have hne2:=PM.ne HT.out HN.out
     replace HT:=hJ hk
     clear hx hk
     go_region_with (first|(go_at_call 303;refine af8 (.tuple #[]) (S.comma hR.ok x _ HD2.out HAD.out.s hne2) HX2.out (fun w9 hp9=>by (go_wp2_with fail);exact⟨rfl,AnsC.bad HT.out (HAD.out.p.then hp9)⟩) ?_;intro hf;have HFX:=hJ hf;clear hf))
     all_goals exact HFX.out.elim
   ·clear HA
    rintro listed a a1 W i ⟨b0,b1,b2,b3,b4,b5,b6,b7,b8,gz,r,c,ax,cx,F1,rfl,rfl,i8,i9,iF,iN,iZ,hS⟩ hfr hi
    rw [mem_ready] at hi
    have HA:=hJ hS
    clear hS
    subst ha0
    simp only [List.setIfInBounds_toArray,List.set_cons_succ,List.set_cons_zero,Array.getD_eq_getD_getElem?,List.getElem?_toArray,List.getElem?_cons_succ,List.getElem?_cons_zero,Option.getD_some] at hfr
    subst hfr
    match i,hi with
    |0,hg=>
     clear hi
     simp [Region.binds] at hg
     obtain⟨rfl,rfl,rfl,rfl⟩:=ah8 i8 i9 (by simp [hg])
     obtain rfl:b0=false:=by simp [hg]
     obtain⟨zp0,yp0⟩:=HA.out.bp.fs
     obtain⟨zk0,yk0⟩:=HA.out.bk.fs
     have lp:=HA.out.bp.lt
     have lk:=HA.out.bk.lt
     refine wpOp_step rfl fun K hK=> ?_
     go_simp
     exact hK _ _ ⟨_,_,_,_,_,_,_,_,_,gz,r,c,ax,cx,F1,rfl,(by kernel_rfl),(by simp),(by simp),iF,iN,iZ,HA.out⟩
    |1,hg=>
     clear hi
     simp [Region.binds] at hg
     obtain⟨rfl,rfl,rfl,rfl⟩:=ah8 i8 i9 (by simp [hg])
     obtain rfl:b1=false:=by simp [hg]
     obtain⟨zp0,yp0⟩:=HA.out.bp.fs
     obtain⟨zk0,yk0⟩:=HA.out.bk.fs
     have lp:=HA.out.bp.lt
     have lk:=HA.out.bk.lt
     refine wpOp_step rfl fun K hK=> ?_
     go_simp
     exact hK _ _ ⟨_,_,_,_,_,_,_,_,_,gz,r,c,ax,cx,F1,rfl,(by kernel_rfl),(by simp),(by simp),iF,iN,iZ,HA.out⟩
    |2,hg=>
     clear hi
     simp [Region.binds] at hg
     obtain⟨rfl,rfl,rfl,rfl⟩:=ah8 i8 i9 (by simp [hg])
     obtain rfl:b1=true:=by simp [hg]
     obtain rfl:b2=false:=by simp [hg]
     refine wpOp_step rfl fun K hK=> ?_
     go_simp
     refine(hR.h .spread _ _ q2 HA.out.s hne).mono ?_
     intro e w7 h1
     rw [HX.out] at h1
     obtain⟨v,rfl,hn,hs7,hp7⟩:=h1
     obtain⟨ax,cx,rfl,hn⟩:=hn.form
     exact hK _ _ ⟨_,_,_,_,_,_,_,_,_,gz,r,c,ax,cx,F1,rfl,(by kernel_rfl),(by simp),(by simp),iF,(fun _ _=>hn),(fun a b=>⟨(iZ a b).1,(iZ a b).2.same (HA.out.s.box hp7 (iZ a b).1)⟩),(HA.out.call hs7 hp7)⟩
    |3,hg=>
     clear hi
     simp [Region.binds] at hg
     obtain⟨rfl,rfl,rfl,rfl⟩:=ah8 i8 i9 (by simp [hg])
     obtain rfl:b0=true:=by simp [hg]
     obtain rfl:b3=false:=by simp [hg]
     refine wpOp_step rfl fun K hK=> ?_
     go_simp
     exact hK _ _ ⟨_,_,_,_,_,_,_,_,_,gz,r,c,ax,cx,F1,rfl,(by kernel_rfl),(by simp),(by simp),iF,iN,iZ,HA.out⟩
    |4,hg=>
     clear hi
     simp [Region.binds] at hg
     obtain⟨rfl,rfl,rfl,rfl⟩:=ah8 i8 i9 (by simp [hg])
     obtain rfl:b4=false:=by simp [hg]
     refine wpOp_step rfl fun K hK=> ?_
     go_simp
     obtain⟨F2,h1,h2,h3,h4⟩:=HA.out.same (Only.alloc (Only.refl _ _) (.cells #[.int .i64 0,.string ⟨#[]⟩,.slice none 0 0,.int .i64 0,.int .i64 0] 27))
     exact hK _ _ ⟨_,_,_,_,_,_,_,_,_,W.heap.size,r,c,ax,cx,F2,rfl,(by kernel_rfl),(by simp),(by simp),(fun k h=>h1 k (iF k h)),(fun a b=>h3 _ _ (iN a b)),(fun _ _=>⟨h2 _ (Nat.le_refl _) (by simp),ab0.new rfl⟩),h4⟩
    |5,hg=>
     clear hi
     simp [Region.binds] at hg
     obtain⟨rfl,rfl,rfl,rfl,rfl⟩:b0=true∧b1=true∧b2=true∧b3=true∧b4=true:=by simp [hg]
     obtain rfl:b5=false:=by simp [hg]
     obtain⟨rfl,rfl,rfl⟩:=bo2 i9
     refine wpOp_step rfl fun K hK=> ?_
     refine step_append_lies _ (by rfl) _ _ _ (by rfl) w0.heap.size 27 i0 _ 5 64 (by kernel_rfl) hi0 hz0 hz1 hz2 (by rfl) (by decide) (.slice sa l.length sc) l.length (l.flatMap aa8) (by rfl) HA.out.k.own ⟨gz,0,none⟩ 1 1 (aa8 (Nd.zero,none,0)) (by rfl) (by rfl) (World.news_of_block (iZ rfl rfl).2) (ad9 _) (by decide) (by unfold maxLen;omega) (by omega) HA.out.bs W.heap.size rfl ?_
     intro g9 cap9 w9 hown9 hg9 hat9 hlt9
     obtain⟨F9,hF9,hn9,ha9⟩:=HA.out.push0 hown9 hg9 (hat9.imp (fun e=>e.symm) (fun e=>congrArg some e))
     exact hK _ _ ⟨_,_,_,_,_,_,_,_,_,gz,g9,cap9,ax,cx,F9,rfl,(by kernel_rfl),(by simp),(by simp),(fun k h=>hF9 k (iF k h)),(fun a b=>hn9 _ _ (iN a b)),(fun _ h=>by cases h),ha9⟩
    |6,hg=>
     clear hi
     simp [Region.binds] at hg
     obtain⟨rfl,rfl,rfl,rfl,rfl,rfl⟩:b0=true∧b1=true∧b2=true∧b3=true∧b4=true∧b5=true:=by simp [hg]
     obtain rfl:b6=false:=by simp [hg]
     refine wpOp_step rfl fun K hK=> ?_
     go_simp
     exact hK _ _ ⟨_,_,_,_,_,_,_,_,_,gz,r,c,ax,cx,F1,rfl,(by kernel_rfl),(by simp),(by simp),iF,iN,(fun _ h=>by cases h),HA.out⟩
    |7,hg=>
     clear hi
     simp [Region.binds] at hg
     obtain⟨rfl,rfl,rfl,rfl,rfl,rfl⟩:b0=true∧b1=true∧b2=true∧b3=true∧b4=true∧b5=true:=by simp [hg]
     obtain rfl:b6=true:=by simp [hg]
     obtain rfl:b7=false:=by simp [hg]
     obtain⟨⟨fr0,fr1,fr2,fr3,fr4⟩,c0,c1,c2,c3,c4,lr9⟩:=KsO.last HA.out.k
     refine wpOp_step rfl fun K hK=> ?_
     go_simp
     exact hK _ _ ⟨_,_,_,_,_,_,_,_,_,gz,r,c,ax,cx,F1,rfl,(by kernel_rfl),(by simp),(by simp),iF,(fun _ h=>by cases h),(fun _ h=>by cases h),(HA.out.last (iN rfl rfl))⟩
    |8,hg=>
     clear hi
     simp [Region.binds] at hg
     obtain⟨rfl,rfl,rfl,rfl,rfl,rfl⟩:b0=true∧b1=true∧b2=true∧b3=true∧b4=true∧b5=true:=by simp [hg]
     obtain rfl:b8=false:=by simp [hg]
     obtain⟨zp0,yp0⟩:=HA.out.bp.fs
     obtain⟨zk0,yk0⟩:=HA.out.bk.fs
     have lp:=HA.out.bp.lt
     have lk:=HA.out.bk.lt
     refine wpOp_step rfl fun K hK=> ?_
     go_simp
     exact hK _ _ ⟨_,_,_,_,_,_,_,_,_,gz,r,c,ax,cx,F1,rfl,(by kernel_rfl),(by simp),(by simp),iF,(fun a b=>HA.out.setk_is _ (iN a b)),(fun _ h=>by cases h),(HA.out.setk _)⟩
    |i+9,hg=>obtain⟨_,o,ho,_⟩:=hg;exact absurd ho (by simp)
  ·have HX:=hJ hx
   have hne:=PM.ne HT.out HN.out
   replace HT:=hJ hk
   clear hx hk
   generalize ha0:Act.mk _ _=a0
   refine ai8 (by kernel_rfl) (by kernel_rfl) (fun listed a W=> ∃(b0 b1 b2 b3 b4 b5 b6 b7 b8:Bool) (gz:Nat) (F1:Nat→Prop),listed= #[b0,b1,b2,b3,b4,b5,b6,b7,b8]∧a= { tmps:=(((((((a0.tmps.setIfInBounds 5 (bif b0 then (.slice sa l.length sc) else a0.tmps.getD 5 undef)).setIfInBounds 6 (bif b1 then .pointer (some ⟨E.b,0,none⟩) else a0.tmps.getD 6 undef)).setIfInBounds 7 (bif b2 then undef else a0.tmps.getD 7 undef)).setIfInBounds 8 (bif b3 then .int .i64 l.length else a0.tmps.getD 8 undef)).setIfInBounds 9 (bif b4 then .slice (some ⟨gz,0,none⟩) 1 1 else a0.tmps.getD 9 undef)).setIfInBounds 10 (bif b5 then undef else a0.tmps.getD 10 undef)).setIfInBounds 11 (bif b6 then undef else a0.tmps.getD 11 undef)),defers:=a0.defers } ∧(b5=true→(b0 && b1 && b2 && b3 && b4)=true)∧((b6||b7||b8)=true→b5=true)∧(b2=false)∧(∀k,F' k→F1 k)∧ApS E F1 (fun j=>j=gk∨w0.heap.size≤j) w w0.heap.size gp gk (.slice sa l.length sc) (.slice sa l.length sc) l q2 W) ?_ ?_ ?_
   ·exact⟨_,_,_,_,_,_,_,_,_,0,_,rfl,(by kernel_rfl),(by simp),(by simp),rfl,(fun _ h=>HFF.out _ h),HA.out⟩
   ·rintro a a1 W ⟨b0,b1,b2,b3,b4,b5,b6,b7,b8,gz,F1,h1,rfl,i8,i9,i2,iF,hS⟩ hfr
    have h2: [true,true,true,true,true,true,true,true,true]= [b0,b1,b2,b3,b4,b5,b6,b7,b8]:=congrArg Array.toList h1
    simp only [List.cons.injEq,and_true] at h2
    obtain⟨rfl,rfl,rfl,rfl,rfl,rfl,rfl,rfl,rfl⟩:=h2
    clear h1
    have HA:=hJ hS
    clear hS
    cases i2
   ·clear HA
    rintro listed a a1 W i ⟨b0,b1,b2,b3,b4,b5,b6,b7,b8,gz,F1,rfl,rfl,i8,i9,i2,iF,hS⟩ hfr hi
    rw [mem_ready] at hi
    have HA:=hJ hS
    clear hS
    subst ha0
    simp only [List.setIfInBounds_toArray,List.set_cons_succ,List.set_cons_zero,Array.getD_eq_getD_getElem?,List.getElem?_toArray,List.getElem?_cons_succ,List.getElem?_cons_zero,Option.getD_some] at hfr
    subst hfr
    match i,hi with
    |0,hg=>
     clear hi
     simp [Region.binds] at hg
     obtain⟨rfl,rfl,rfl,rfl⟩:=ah8 i8 i9 (by simp [hg])
     subst i2
     obtain rfl:b0=false:=by simp [hg]
     obtain⟨zp0,yp0⟩:=HA.out.bp.fs
     obtain⟨zk0,yk0⟩:=HA.out.bk.fs
     have lp:=HA.out.bp.lt
     have lk:=HA.out.bk.lt
     refine wpOp_step rfl fun K hK=> ?_
     go_simp
     exact hK _ _ ⟨_,_,_,_,_,_,_,_,_,gz,F1,rfl,(by kernel_rfl),(by simp),(by simp),rfl,iF,HA.out⟩
    |1,hg=>
     clear hi
     simp [Region.binds] at hg
     obtain⟨rfl,rfl,rfl,rfl⟩:=ah8 i8 i9 (by simp [hg])
     subst i2
     obtain rfl:b1=false:=by simp [hg]
     obtain⟨zp0,yp0⟩:=HA.out.bp.fs
     obtain⟨zk0,yk0⟩:=HA.out.bk.fs
     have lp:=HA.out.bp.lt
     have lk:=HA.out.bk.lt
     refine wpOp_step rfl fun K hK=> ?_
     go_simp
     exact hK _ _ ⟨_,_,_,_,_,_,_,_,_,gz,F1,rfl,(by kernel_rfl),(by simp),(by simp),rfl,iF,HA.out⟩
    |2,hg=>
     clear hi
     simp [Region.binds] at hg
     obtain⟨rfl,rfl,rfl,rfl⟩:=ah8 i8 i9 (by simp [hg])
     subst i2
     obtain rfl:b1=true:=by simp [hg]
     refine wpOp_step rfl fun K hK=> ?_
     go_simp
     refine af8 (.agg #[.int .i64 0,.string ⟨#[]⟩,.slice none 0 0,.int .i64 0,.int .i64 0]) (hR.h .spread _ _ _ HA.out.s hne) HX.out (fun w9 hp9=>⟨rfl,AnsC.bad HT.out (HA.out.p.then hp9)⟩) ?_
     exact fun hf=>hf.elim
    |3,hg=>
     clear hi
     simp [Region.binds] at hg
     obtain⟨rfl,rfl,rfl,rfl⟩:=ah8 i8 i9 (by simp [hg])
     subst i2
     obtain rfl:b0=true:=by simp [hg]
     obtain rfl:b3=false:=by simp [hg]
     refine wpOp_step rfl fun K hK=> ?_
     go_simp
     exact hK _ _ ⟨_,_,_,_,_,_,_,_,_,gz,F1,rfl,(by kernel_rfl),(by simp),(by simp),rfl,iF,HA.out⟩
    |4,hg=>
     clear hi
     simp [Region.binds] at hg
     obtain⟨rfl,rfl,rfl,rfl⟩:=ah8 i8 i9 (by simp [hg])
     subst i2
     obtain rfl:b4=false:=by simp [hg]
     refine wpOp_step rfl fun K hK=> ?_
     go_simp
     obtain⟨F2,h1,h2,h3,h4⟩:=HA.out.same (Only.alloc (Only.refl _ _) (.cells #[.int .i64 0,.string ⟨#[]⟩,.slice none 0 0,.int .i64 0,.int .i64 0] 27))
     exact hK _ _ ⟨_,_,_,_,_,_,_,_,_,W.heap.size,F2,rfl,(by kernel_rfl),(by simp),(by simp),rfl,(fun k h=>h1 k (iF k h)),h4⟩
    |5,hg=>
     clear hi
     simp [Region.binds] at hg
     exfalso
     subst i2
     simp at hg
    |6,hg=>
     clear hi
     simp [Region.binds] at hg
     exfalso
     subst i2
     exact absurd (i8 (by simp [hg])) (by simp)
    |7,hg=>
     clear hi
     simp [Region.binds] at hg
     exfalso
     subst i2
     exact absurd (i8 (by simp [hg])) (by simp)
    |8,hg=>
     clear hi
     simp [Region.binds] at hg
     exfalso
     subst i2
     exact absurd (i8 (by simp [hg])) (by simp)
    |i+9,hg=>obtain⟨_,o,ho,_⟩:=hg;exact absurd ho (by simp)
 |false=>
  rw [if_neg (by rw [hb];decide)] at HT
  clear hb
  go_upto_region 3 with fail
  replace HA:=hJ HA.out.drew
  clear zp0 yp0 zk0 yk0 lp lk
  rcases PM.cases HT.out HN.out with ⟨x,q1,hx,hk⟩|⟨c,i,hx,hk⟩
  ·have HX:=hJ hx
   have hne:=PM.ne HT.out HN.out
   replace HT:=hJ hk
   clear hx hk
   generalize ha0:Act.mk _ _=a0
   refine ai8 (by kernel_rfl) (by kernel_rfl) (fun listed a W=> ∃(b0 b1 b2 b3 b4 b5 b6 b7 b8:Bool) (gz:Nat) (r:Nat) (c:Nat) (ax:Option Addr) (cx:Nat) (F1:Nat→Prop),listed= #[b0,b1,b2,b3,b4,b5,b6,b7,b8]∧a= { tmps:=(((((((a0.tmps.setIfInBounds 20 (bif b0 then (.slice sa l.length sc) else a0.tmps.getD 20 undef)).setIfInBounds 21 (bif b1 then .pointer (some ⟨E.b,0,none⟩) else a0.tmps.getD 21 undef)).setIfInBounds 22 (bif b2 then .agg #[.int .i64 x.kind,.string x.text,.slice ax x.kids.length cx,.int .i64 x.from',.int .i64 x.till] else a0.tmps.getD 22 undef)).setIfInBounds 23 (bif b3 then .int .i64 l.length else a0.tmps.getD 23 undef)).setIfInBounds 24 (bif b4 then .slice (some ⟨gz,0,none⟩) 1 1 else a0.tmps.getD 24 undef)).setIfInBounds 25 (bif b5 then (.slice (some ⟨r,0,none⟩) (l.length+1) c) else a0.tmps.getD 25 undef)).setIfInBounds 26 (bif b6 then .pointer (some ⟨r,l.length*5,none⟩) else a0.tmps.getD 26 undef)),defers:=a0.defers } ∧(b5=true→(b0 && b1 && b2 && b3 && b4)=true)∧((b6||b7||b8)=true→b5=true)∧(∀k,F' k→F1 k)∧(b2=true→b7=false→IsP E F1 W x (.agg #[.int .i64 x.kind,.string x.text,.slice ax x.kids.length cx,.int .i64 x.from',.int .i64 x.till]))∧(b4=true→b5=false→F1 gz∧ab0 W gz 0 ⟨#[]⟩ none 0 0 0 0)∧ApS E F1 (fun j=>j=gk∨w0.heap.size≤j) w w0.heap.size gp gk (bif b8 then (.slice (some ⟨r,0,none⟩) (l.length+1) c) else (.slice sa l.length sc)) (bif b5 then (.slice (some ⟨r,0,none⟩) (l.length+1) c) else (.slice sa l.length sc)) (bif b5 then l++ [bif b7 then (x,ax,cx) else (Nd.zero,none,0)] else l) (bif b2 then q1 else q2) W) ?_ ?_ ?_
   ·exact⟨_,_,_,_,_,_,_,_,_,0,0,0,none,0,_,rfl,(by kernel_rfl),(by simp),(by simp),(fun _ h=>HFF.out _ h),(fun h=>by cases h),(fun h=>by cases h),HA.out⟩
   ·rintro a a1 W ⟨b0,b1,b2,b3,b4,b5,b6,b7,b8,gz,r,c,ax,cx,F1,h1,rfl,i8,i9,iF,iN,iZ,hS⟩ hfr
    have h2: [true,true,true,true,true,true,true,true,true]= [b0,b1,b2,b3,b4,b5,b6,b7,b8]:=congrArg Array.toList h1
    simp only [List.cons.injEq,and_true] at h2
    obtain⟨rfl,rfl,rfl,rfl,rfl,rfl,rfl,rfl,rfl⟩:=h2
    clear h1
    have HA:=hJ hS
    clear hS
    generalize W=w8 at*
    subst ha0
    simp only [List.setIfInBounds_toArray,List.set_cons_succ,List.set_cons_zero,Array.getD_eq_getD_getElem?,List.getElem?_toArray,List.getElem?_cons_succ,List.getElem?_cons_zero,Option.getD_some,cond_true] at hfr
    subst hfr
    have HFF:=hJ iF
    clear iF iN iZ i8 i9
    dsimp only [cond_true] at HA
    go_wp2_with fail
    exact bodyPost_end (results_none rfl _ _ _) rfl (AnsC.ok HT.out.symm (fun j hj=>HFF.out j (HF.out j hj)) ⟨l++ [(x,ax,cx)],_,by rw [List.map_append,HL.out];rfl,HA.out.mp,HA.out.bp,HA.out.mgk,HA.out.bk,HA.out.k,HA.out.lgk,HA.out.lgp,HA.out.bs⟩ HA.out.s HA.out.p)
   ·clear HA
    rintro listed a a1 W i ⟨b0,b1,b2,b3,b4,b5,b6,b7,b8,gz,r,c,ax,cx,F1,rfl,rfl,i8,i9,iF,iN,iZ,hS⟩ hfr hi
    rw [mem_ready] at hi
    have HA:=hJ hS
    clear hS
    subst ha0
    simp only [List.setIfInBounds_toArray,List.set_cons_succ,List.set_cons_zero,Array.getD_eq_getD_getElem?,List.getElem?_toArray,List.getElem?_cons_succ,List.getElem?_cons_zero,Option.getD_some] at hfr
    subst hfr
    match i,hi with
    |0,hg=>
     clear hi
     simp [Region.binds] at hg
     obtain⟨rfl,rfl,rfl,rfl⟩:=ah8 i8 i9 (by simp [hg])
     obtain rfl:b0=false:=by simp [hg]
     obtain⟨zp0,yp0⟩:=HA.out.bp.fs
     obtain⟨zk0,yk0⟩:=HA.out.bk.fs
     have lp:=HA.out.bp.lt
     have lk:=HA.out.bk.lt
     refine wpOp_step rfl fun K hK=> ?_
     go_simp
     exact hK _ _ ⟨_,_,_,_,_,_,_,_,_,gz,r,c,ax,cx,F1,rfl,(by kernel_rfl),(by simp),(by simp),iF,iN,iZ,HA.out⟩
    |1,hg=>
     clear hi
     simp [Region.binds] at hg
     obtain⟨rfl,rfl,rfl,rfl⟩:=ah8 i8 i9 (by simp [hg])
     obtain rfl:b1=false:=by simp [hg]
     obtain⟨zp0,yp0⟩:=HA.out.bp.fs
     obtain⟨zk0,yk0⟩:=HA.out.bk.fs
     have lp:=HA.out.bp.lt
     have lk:=HA.out.bk.lt
     refine wpOp_step rfl fun K hK=> ?_
     go_simp
     exact hK _ _ ⟨_,_,_,_,_,_,_,_,_,gz,r,c,ax,cx,F1,rfl,(by kernel_rfl),(by simp),(by simp),iF,iN,iZ,HA.out⟩
    |2,hg=>
     clear hi
     simp [Region.binds] at hg
     obtain⟨rfl,rfl,rfl,rfl⟩:=ah8 i8 i9 (by simp [hg])
     obtain rfl:b1=true:=by simp [hg]
     obtain rfl:b2=false:=by simp [hg]
     refine wpOp_step rfl fun K hK=> ?_
     go_simp
     refine(hR.h .prop _ _ q2 HA.out.s hne).mono ?_
     intro e w7 h1
     rw [HX.out] at h1
     obtain⟨v,rfl,hn,hs7,hp7⟩:=h1
     obtain⟨ax,cx,rfl,hn⟩:=hn.form
     exact hK _ _ ⟨_,_,_,_,_,_,_,_,_,gz,r,c,ax,cx,F1,rfl,(by kernel_rfl),(by simp),(by simp),iF,(fun _ _=>hn),(fun a b=>⟨(iZ a b).1,(iZ a b).2.same (HA.out.s.box hp7 (iZ a b).1)⟩),(HA.out.call hs7 hp7)⟩
    |3,hg=>
     clear hi
     simp [Region.binds] at hg
     obtain⟨rfl,rfl,rfl,rfl⟩:=ah8 i8 i9 (by simp [hg])
     obtain rfl:b0=true:=by simp [hg]
     obtain rfl:b3=false:=by simp [hg]
     refine wpOp_step rfl fun K hK=> ?_
     go_simp
     exact hK _ _ ⟨_,_,_,_,_,_,_,_,_,gz,r,c,ax,cx,F1,rfl,(by kernel_rfl),(by simp),(by simp),iF,iN,iZ,HA.out⟩
    |4,hg=>
     clear hi
     simp [Region.binds] at hg
     obtain⟨rfl,rfl,rfl,rfl⟩:=ah8 i8 i9 (by simp [hg])
     obtain rfl:b4=false:=by simp [hg]
     refine wpOp_step rfl fun K hK=> ?_
     go_simp
     obtain⟨F2,h1,h2,h3,h4⟩:=HA.out.same (Only.alloc (Only.refl _ _) (.cells #[.int .i64 0,.string ⟨#[]⟩,.slice none 0 0,.int .i64 0,.int .i64 0] 27))
     exact hK _ _ ⟨_,_,_,_,_,_,_,_,_,W.heap.size,r,c,ax,cx,F2,rfl,(by kernel_rfl),(by simp),(by simp),(fun k h=>h1 k (iF k h)),(fun a b=>h3 _ _ (iN a b)),(fun _ _=>⟨h2 _ (Nat.le_refl _) (by simp),ab0.new rfl⟩),h4⟩
    |5,hg=>
     clear hi
     simp [Region.binds] at hg
     obtain⟨rfl,rfl,rfl,rfl,rfl⟩:b0=true∧b1=true∧b2=true∧b3=true∧b4=true:=by simp [hg]
     obtain rfl:b5=false:=by simp [hg]
     obtain⟨rfl,rfl,rfl⟩:=bo2 i9
     refine wpOp_step rfl fun K hK=> ?_
     refine step_append_lies _ (by rfl) _ _ _ (by rfl) w0.heap.size 27 i0 _ 5 64 (by kernel_rfl) hi0 hz0 hz1 hz2 (by rfl) (by decide) (.slice sa l.length sc) l.length (l.flatMap aa8) (by rfl) HA.out.k.own ⟨gz,0,none⟩ 1 1 (aa8 (Nd.zero,none,0)) (by rfl) (by rfl) (World.news_of_block (iZ rfl rfl).2) (ad9 _) (by decide) (by unfold maxLen;omega) (by omega) HA.out.bs W.heap.size rfl ?_
     intro g9 cap9 w9 hown9 hg9 hat9 hlt9
     obtain⟨F9,hF9,hn9,ha9⟩:=HA.out.push0 hown9 hg9 (hat9.imp (fun e=>e.symm) (fun e=>congrArg some e))
     exact hK _ _ ⟨_,_,_,_,_,_,_,_,_,gz,g9,cap9,ax,cx,F9,rfl,(by kernel_rfl),(by simp),(by simp),(fun k h=>hF9 k (iF k h)),(fun a b=>hn9 _ _ (iN a b)),(fun _ h=>by cases h),ha9⟩
    |6,hg=>
     clear hi
     simp [Region.binds] at hg
     obtain⟨rfl,rfl,rfl,rfl,rfl,rfl⟩:b0=true∧b1=true∧b2=true∧b3=true∧b4=true∧b5=true:=by simp [hg]
     obtain rfl:b6=false:=by simp [hg]
     refine wpOp_step rfl fun K hK=> ?_
     go_simp
     exact hK _ _ ⟨_,_,_,_,_,_,_,_,_,gz,r,c,ax,cx,F1,rfl,(by kernel_rfl),(by simp),(by simp),iF,iN,(fun _ h=>by cases h),HA.out⟩
    |7,hg=>
     clear hi
     simp [Region.binds] at hg
     obtain⟨rfl,rfl,rfl,rfl,rfl,rfl⟩:b0=true∧b1=true∧b2=true∧b3=true∧b4=true∧b5=true:=by simp [hg]
     obtain rfl:b6=true:=by simp [hg]
     obtain rfl:b7=false:=by simp [hg]
     obtain⟨⟨fr0,fr1,fr2,fr3,fr4⟩,c0,c1,c2,c3,c4,lr9⟩:=KsO.last HA.out.k
     refine wpOp_step rfl fun K hK=> ?_
     go_simp
     exact hK _ _ ⟨_,_,_,_,_,_,_,_,_,gz,r,c,ax,cx,F1,rfl,(by kernel_rfl),(by simp),(by simp),iF,(fun _ h=>by cases h),(fun _ h=>by cases h),(HA.out.last (iN rfl rfl))⟩
    |8,hg=>
     clear hi
     simp [Region.binds] at hg
     obtain⟨rfl,rfl,rfl,rfl,rfl,rfl⟩:b0=true∧b1=true∧b2=true∧b3=true∧b4=true∧b5=true:=by simp [hg]
     obtain rfl:b8=false:=by simp [hg]
     obtain⟨zp0,yp0⟩:=HA.out.bp.fs
     obtain⟨zk0,yk0⟩:=HA.out.bk.fs
     have lp:=HA.out.bp.lt
     have lk:=HA.out.bk.lt
     refine wpOp_step rfl fun K hK=> ?_
     go_simp
     exact hK _ _ ⟨_,_,_,_,_,_,_,_,_,gz,r,c,ax,cx,F1,rfl,(by kernel_rfl),(by simp),(by simp),iF,(fun a b=>HA.out.setk_is _ (iN a b)),(fun _ h=>by cases h),(HA.out.setk _)⟩
    |i+9,hg=>obtain⟨_,o,ho,_⟩:=hg;exact absurd ho (by simp)
  ·have HX:=hJ hx
   have hne:=PM.ne HT.out HN.out
   replace HT:=hJ hk
   clear hx hk
   generalize ha0:Act.mk _ _=a0
   refine ai8 (by kernel_rfl) (by kernel_rfl) (fun listed a W=> ∃(b0 b1 b2 b3 b4 b5 b6 b7 b8:Bool) (gz:Nat) (F1:Nat→Prop),listed= #[b0,b1,b2,b3,b4,b5,b6,b7,b8]∧a= { tmps:=(((((((a0.tmps.setIfInBounds 20 (bif b0 then (.slice sa l.length sc) else a0.tmps.getD 20 undef)).setIfInBounds 21 (bif b1 then .pointer (some ⟨E.b,0,none⟩) else a0.tmps.getD 21 undef)).setIfInBounds 22 (bif b2 then undef else a0.tmps.getD 22 undef)).setIfInBounds 23 (bif b3 then .int .i64 l.length else a0.tmps.getD 23 undef)).setIfInBounds 24 (bif b4 then .slice (some ⟨gz,0,none⟩) 1 1 else a0.tmps.getD 24 undef)).setIfInBounds 25 (bif b5 then undef else a0.tmps.getD 25 undef)).setIfInBounds 26 (bif b6 then undef else a0.tmps.getD 26 undef)),defers:=a0.defers } ∧(b5=true→(b0 && b1 && b2 && b3 && b4)=true)∧((b6||b7||b8)=true→b5=true)∧(b2=false)∧(∀k,F' k→F1 k)∧ApS E F1 (fun j=>j=gk∨w0.heap.size≤j) w w0.heap.size gp gk (.slice sa l.length sc) (.slice sa l.length sc) l q2 W) ?_ ?_ ?_
   ·exact⟨_,_,_,_,_,_,_,_,_,0,_,rfl,(by kernel_rfl),(by simp),(by simp),rfl,(fun _ h=>HFF.out _ h),HA.out⟩
   ·rintro a a1 W ⟨b0,b1,b2,b3,b4,b5,b6,b7,b8,gz,F1,h1,rfl,i8,i9,i2,iF,hS⟩ hfr
    have h2: [true,true,true,true,true,true,true,true,true]= [b0,b1,b2,b3,b4,b5,b6,b7,b8]:=congrArg Array.toList h1
    simp only [List.cons.injEq,and_true] at h2
    obtain⟨rfl,rfl,rfl,rfl,rfl,rfl,rfl,rfl,rfl⟩:=h2
    clear h1
    have HA:=hJ hS
    clear hS
    cases i2
   ·clear HA
    rintro listed a a1 W i ⟨b0,b1,b2,b3,b4,b5,b6,b7,b8,gz,F1,rfl,rfl,i8,i9,i2,iF,hS⟩ hfr hi
    rw [mem_ready] at hi
    have HA:=hJ hS
    clear hS
    subst ha0
    simp only [List.setIfInBounds_toArray,List.set_cons_succ,List.set_cons_zero,Array.getD_eq_getD_getElem?,List.getElem?_toArray,List.getElem?_cons_succ,List.getElem?_cons_zero,Option.getD_some] at hfr
    subst hfr
    match i,hi with
    |0,hg=>
     clear hi
     simp [Region.binds] at hg
     obtain⟨rfl,rfl,rfl,rfl⟩:=ah8 i8 i9 (by simp [hg])
     subst i2
     obtain rfl:b0=false:=by simp [hg]
     obtain⟨zp0,yp0⟩:=HA.out.bp.fs
     obtain⟨zk0,yk0⟩:=HA.out.bk.fs
     have lp:=HA.out.bp.lt
     have lk:=HA.out.bk.lt
     refine wpOp_step rfl fun K hK=> ?_
     go_simp
     exact hK _ _ ⟨_,_,_,_,_,_,_,_,_,gz,F1,rfl,(by kernel_rfl),(by simp),(by simp),rfl,iF,HA.out⟩
    |1,hg=>
     clear hi
     simp [Region.binds] at hg
     obtain⟨rfl,rfl,rfl,rfl⟩:=ah8 i8 i9 (by simp [hg])
     subst i2
     obtain rfl:b1=false:=by simp [hg]
     obtain⟨zp0,yp0⟩:=HA.out.bp.fs
     obtain⟨zk0,yk0⟩:=HA.out.bk.fs
     have lp:=HA.out.bp.lt
     have lk:=HA.out.bk.lt
     refine wpOp_step rfl fun K hK=> ?_
     go_simp
     exact hK _ _ ⟨_,_,_,_,_,_,_,_,_,gz,F1,rfl,(by kernel_rfl),(by simp),(by simp),rfl,iF,HA.out⟩
    |2,hg=>
     clear hi
     simp [Region.binds] at hg
     obtain⟨rfl,rfl,rfl,rfl⟩:=ah8 i8 i9 (by simp [hg])
     subst i2
     obtain rfl:b1=true:=by simp [hg]
     refine wpOp_step rfl fun K hK=> ?_
     go_simp
     refine af8 (.agg #[.int .i64 0,.string ⟨#[]⟩,.slice none 0 0,.int .i64 0,.int .i64 0]) (hR.h .prop _ _ _ HA.out.s hne) HX.out (fun w9 hp9=>⟨rfl,AnsC.bad HT.out (HA.out.p.then hp9)⟩) ?_
     exact fun hf=>hf.elim
    |3,hg=>
     clear hi
     simp [Region.binds] at hg
     obtain⟨rfl,rfl,rfl,rfl⟩:=ah8 i8 i9 (by simp [hg])
     subst i2
     obtain rfl:b0=true:=by simp [hg]
     obtain rfl:b3=false:=by simp [hg]
     refine wpOp_step rfl fun K hK=> ?_
     go_simp
     exact hK _ _ ⟨_,_,_,_,_,_,_,_,_,gz,F1,rfl,(by kernel_rfl),(by simp),(by simp),rfl,iF,HA.out⟩
    |4,hg=>
     clear hi
     simp [Region.binds] at hg
     obtain⟨rfl,rfl,rfl,rfl⟩:=ah8 i8 i9 (by simp [hg])
     subst i2
     obtain rfl:b4=false:=by simp [hg]
     refine wpOp_step rfl fun K hK=> ?_
     go_simp
     obtain⟨F2,h1,h2,h3,h4⟩:=HA.out.same (Only.alloc (Only.refl _ _) (.cells #[.int .i64 0,.string ⟨#[]⟩,.slice none 0 0,.int .i64 0,.int .i64 0] 27))
     exact hK _ _ ⟨_,_,_,_,_,_,_,_,_,W.heap.size,F2,rfl,(by kernel_rfl),(by simp),(by simp),rfl,(fun k h=>h1 k (iF k h)),h4⟩
    |5,hg=>
     clear hi
     simp [Region.binds] at hg
     exfalso
     subst i2
     simp at hg
    |6,hg=>
     clear hi
     simp [Region.binds] at hg
     exfalso
     subst i2
     exact absurd (i8 (by simp [hg])) (by simp)
    |7,hg=>
     clear hi
     simp [Region.binds] at hg
     exfalso
     subst i2
     exact absurd (i8 (by simp [hg])) (by simp)
    |8,hg=>
     clear hi
     simp [Region.binds] at hg
     exfalso
     subst i2
     exact absurd (i8 (by simp [hg])) (by simp)
    |i+9,hg=>obtain⟨_,o,ho,_⟩:=hg;exact absurd ho (by simp)
theorem C.object1 {E:PE} {R:(x:Fn)→PM x.Out} (hR:Env E R) (f:Nat) {gp gk:Nat} :
  CloS E (fun k=>k=gk) [(gp,false,.p E.b),(gk,true,.c1 (.slice none 0 0) 25)] (fun F (r:List Nd × Bool) w'=>(∃v,ac2 w' gk v 25∧KsIn E F w' r.1 v)∧F gk) (ar3 E.s ⟨#[125]⟩ 1 (be0 E.s R) f [] false) 309 #[.pointer (some ⟨gp,0,none⟩),.pointer (some ⟨gk,0,none⟩)]:=by
 intro F w p h hB hd hne
 obtain⟨hgp,hB0⟩:=hB (gp,false,.p E.b) (by simp)
 obtain⟨hgk,hB1⟩:=hB (gk,true,.c1 (.slice none 0 0) 25) (by simp)
 replace hB0:PrAt w gp E.b:=hB0
 replace hB1:ac2 w gk (.slice none 0 0) 25:=hB1
 clear hB hd
 have HL:=hJ (P.list hR.ok ⟨#[125]⟩ 1 f [] (fun _=>by kernel_rfl) (C.object11 hR) (fun _ _ _ _ _ ha hs hp=>ha.pb hs hp) ⟨[],_,rfl,hgp,hB0,hgk,hB1,KsO.nil _ _ _ _,hB1.lt,hB0.lt,Nat.le_refl _⟩ h hne)
 have HN:=hJ hne
 have HFO:=hJ (fun(k:Nat) (hk:F k)=>(h.fo k hk).2.1)
 obtain⟨zp0,yp0⟩:=hB0.fs
 have lp:=hB0.lt
 generalize (ar3 E.s ⟨#[125]⟩ 1 (be0 E.s R) f [] false) p=T at*
 clear h hne hB0 hB1
 go_enter Tryz.func309,Tryz.ntmps309
 go_wp2_with fail
 refine HL.out.mono ?_
 intro e w1 h1
 unfold AnsL at h1
 cases T with
 |out=>exact absurd rfl HN.out
 |bad c i=>
  obtain⟨rfl,hp1⟩:=h1
  have HP:=hJ hp1
  clear hp1 HL
  go_wp2_with fail
  exact⟨rfl,Ans.bad rfl HP.out⟩
 |ok r q=>
  obtain⟨F2,hF2,rfl,ha,hs,hp⟩:=h1
  have HA:=hJ (ha.done hs hF2 HFO.out)
  have HP:=hJ hp
  clear ha hs hp hF2 HL
  go_wp2_with fail
  obtain⟨hs3,v,hc,hk⟩:=HA.out
  exact bodyPost_end (results_none rfl _ _ _) rfl (Ans.ok rfl ⟨rfl,⟨v,hc,hk⟩,hgk⟩ hs3 HP.out)
theorem S.objectX {E:PE} {R:(x:Fn)→PM x.Out} (hR:Env E R) {F:Nat→Prop} {w:World} {p:Ps} (f:Nat) (h:St E F w p) (hne:aE6 E.s f R p≠ .out):
  Calls Tryz.prog 297 #[.pointer (some ⟨E.b,0,none⟩)] w (Ans E F X0 w (aE6 E.s f R p) fun n v w'=>IsP E F w' n v):=by
 obtain⟨T,hT⟩: ∃T,aE6 E.s f R p=T:=⟨_,rfl⟩
 rw [hT] at hne⊢
 unfold aE6 at hT
 have HT:=hJ hT
 have HN:=hJ hne
 have HA:=Sa.start0 (X:=X0) h
 clear h hne hT
 go_enter Tryz.func297,Tryz.ntmps297
 go_wp2_with fail
 replace HA:=HA.out.pP (g:=w.heap.size) rfl
 replace HA:=HA.out.pZ (g:=(w.heap.size+1)) (by simp)
 refine HA.out.stepV HT HN (fun _ h e=>P.take hR.ok h.s e) ?_ ?_
 ·intro _ _ _ H;go_wp2_with fail;exact⟨rfl,Ans.badh H⟩
 clear HT HA
 intro t q1 w1 HT HA
 obtain⟨zr,zpb,-⟩:=HA.out.fs
 have yr:=HA.out.fw 0 rfl
 go_wp2_with fail
 replace HA:=HA.out.p1 (g:=w1.heap.size) rfl (.slice none 0 0) 25
 refine HA.out.withG hR.ok 1 0 HT HN (fun _=>by kernel_rfl) (C.object1 hR f) (aI5 _ _) [2,0] ⟨⟨_,_,rfl,.inl rfl⟩,⟨_,_,rfl,.inl rfl⟩,trivial⟩ (by decide) (fun i hi=> .inr (by have:=HA.out.size;simp at this;omega)) ?_ ?_
 ·intro _ _ _ H;go_wp2_with fail;exact⟨rfl,Ans.badh H⟩
 clear zr zpb yr HT HA
 intro F9 rr q2 w2 h9 hs9 hp9 ha9 HT
 obtain⟨ks,bb⟩:=rr
 obtain⟨⟨vk,hbk,hks⟩,_⟩:=ha9
 dsimp only at HT hks
 obtain⟨akn,ckn,rfl,hk9⟩:=KsIn.asP hks
 have HA:=((h9.callc 0 rfl hs9 hp9 (c:= .c1 (.slice akn ks.length ckn) 25) hbk).node hk9).a
 replace HA:=hJ HA
 clear h9 hs9 hp9 hbk hks hk9
 dsimp only [ae4] at HA
 obtain⟨zkb,zr,zpb,-⟩:=HA.out.fs
 have yr:=HA.out.fw 1 rfl
 replace HT:=ac9 HT
 go_wp2_with fail
 refine HA.out.nodeK 12 ⟨#[]⟩ t.from' 0 rfl HT ?_
 clear zkb zr zpb yr HT HA
 intro m am cm w3 _ HT HA
 obtain⟨zkb,zr,zpb,-⟩:=HA.out.fs
 have yr:=HA.out.fw 1 rfl
 go_wp2_with fail
 exact HA.out.fin_nd 1 0 rfl rfl rfl rfl rfl HT.out.symm
end
end Go.Proofs.YtnobjeelihkjmaaGreatDoor
