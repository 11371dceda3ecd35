/- Steps (Qv). Conditions: as stated. -/
import Derived.Test.YtnobjeelihkjmaaGreatDoorZk18
set_option maxHeartbeats 40000000
set_option maxRecDepth 100000
namespace Go.Proofs.YtnobjeelihkjmaaGreatDoor
section
open Go.RowKit
attribute [local go_sem] ab3 ab4 ab5 ab6 ab7 ab8
attribute [local go_sem ↓] Go.wp_at_zero Go.wp_at_succ
theorem C.arguments11 {E:PE} {R:(x:Fn)→PM x.Out} (hR:Env E R) {F:Nat→Prop} {w0:World} {gp gk:Nat} :
  CloL E F (fun k=>k=gk) w0 (KbR E gp gk w0.heap.size) (fun kids=>if 4194304<kids.length then outP else do
   let k←R .spread
   ap8 E.s k
   return kids++ [k]) 301 #[.pointer (some ⟨gk,0,none⟩),.pointer (some ⟨gp,0,none⟩)]:=by
 intro kids F' w p hF0 hw0 hA h hne
 show Calls _ _ _ _ (AnsC E F (fun j=>j=gk∨w0.heap.size≤j) w _ (KbR E gp gk w0.heap.size))
 dsimp only at hne⊢
 have hll:kids.length≤4194304:=by
  by_cases hc:4194304<kids.length
  ·rw [if_pos hc] at hne
   exact absurd rfl hne
  ·omega
 rw [if_neg (by omega)] at hne⊢
 obtain⟨T,hT⟩: ∃T,(do
   let k←R .spread
   ap8 E.s k
   return kids++ [k]) p=T:=⟨_,rfl⟩
 rw [hT] at hne⊢
 obtain⟨l,v,hl,hmp,hbp,hmk,hbk,hkl,hgk,hgp,hbase⟩:=hA
 obtain⟨sa,sc,rfl⟩:=hkl.len
 obtain⟨i0,hi,hz0,hz1,hz2⟩:=info_parts ak2
 have HT:=hJ hT
 have HN:=hJ hne
 have HF:=hJ hF0
 have HL:=hJ hl
 have hlen:l.length≤4194304:=by rw [←hl,List.length_map] at hll;exact hll
 have HA:Hid (ApS E F' (fun j=>j=gk∨w0.heap.size≤j) w w0.heap.size gp gk (.slice sa l.length sc) (.slice sa l.length sc) l p w.drew):=hJ ⟨h.drew,(PB.refl E.b _ w).adv h (Only.refl _ _).drew,hmp,hbp,hmk,hbk,hkl.only h (Only.refl _ _).drew,hgk,hgp,.inl rfl,fun j hj=> .inr hj,hbase⟩
 have HFF:=hJ (fun(k:Nat) (hk:F' k)=>hk)
 have n1:(l.length:Int)<((l.length+1:Nat):Int):=by omega
 have n2:(l.length:Int)<(l.length:Int)+1:=by omega
 have n3:(0:Int)≤(l.length:Int):=by omega
 obtain⟨zp0,yp0⟩:=hbp.fs
 obtain⟨zk0,yk0⟩:=hbk.fs
 have lp:=hbp.lt
 have lk:=hbk.lt
 clear h hne hT hF0 hl hbp hbk hkl hll
 go_enter Tryz.func301,Tryz.ntmps301
 go_wp2_with fail
 rcases PM.cases HT.out HN.out with ⟨x,q1,hx,hk⟩|⟨c,i,hx,hk⟩
 ·have HX:=hJ hx
  have hne:=PM.ne HT.out HN.out
  replace HT:=hJ hk
  clear hx hk
  go_cut [] from 2 to 8 (fun wx=> ∃(F2:Nat→Prop) (v':Value) (ax:Option Addr) (cx:Nat),(∀k,F' k→F2 k)∧ApS E F2 (fun j=>j=gk∨w0.heap.size≤j) w w0.heap.size gp gk v' v' (l++ [(x,ax,cx)]) q1 wx)
  case first=>
   go_region_law (first|(go_simp;refine(hR.h .spread _ _ _ HA.out.s hne).mono ?_;intro e w7 h1;rw [HX.out] at h1;obtain⟨v,rfl,hn,hs7,hp7⟩:=h1;obtain⟨ax,cx,rfl,hn⟩:=hn.form;have HIx:=hJ hn;clear zp0 yp0 zk0 yk0 lp lk;(try clear fr0 fr1 fr2 fr3 fr4 c0 c1 c2 c3 c4 lr9);replace HA:=hJ (HA.out.call hs7 hp7);clear hs7 hp7 hn;obtain⟨zp0,yp0⟩:=HA.out.bp.fs;obtain⟨zk0,yk0⟩:=HA.out.bk.fs;have lp:=HA.out.bp.lt;have lk:=HA.out.bk.lt;(try obtain⟨⟨fr0,fr1,fr2,fr3,fr4⟩,c0,c1,c2,c3,c4,lr9⟩:=KsO.last HA.out.k))|(go_simp;refine ApS.go HA.out (Only.alloc (Only.refl _ _) _) ?_;intro F8 hF8 hnew8 hn8 ha8;replace HFF:=hJ fun k h=>hF8 k (HFF.out k h);replace HA:=hJ ha8;have hz8:F8 w.heap.size:=hnew8 _ (Nat.le_refl _) (by simp);clear hF8 hnew8 hn8 ha8;refine(hR.h .spread _ _ _ HA.out.s hne).mono ?_;intro e w7 h1;rw [HX.out] at h1;obtain⟨v,rfl,hn,hs7,hp7⟩:=h1;obtain⟨ax,cx,rfl,hn⟩:=hn.form;have HIx:=hJ hn;have HZ:Hid (ab0 w7 w.heap.size 0 ⟨#[]⟩ none 0 0 0 0):=hJ (ab0.same (w:=w.alloc (.cells #[.int .i64 0,.string ⟨#[]⟩,.slice none 0 0,.int .i64 0,.int .i64 0] 27)) (ab0.new rfl) (HA.out.s.box hp7 hz8));clear zp0 yp0 zk0 yk0 lp lk;(try clear fr0 fr1 fr2 fr3 fr4 c0 c1 c2 c3 c4 lr9);replace HA:=hJ (HA.out.call hs7 hp7);clear hs7 hp7 hn;obtain⟨zp0,yp0⟩:=HA.out.bp.fs;obtain⟨zk0,yk0⟩:=HA.out.bk.fs;have lp:=HA.out.bp.lt;have lk:=HA.out.bk.lt;(try obtain⟨⟨fr0,fr1,fr2,fr3,fr4⟩,c0,c1,c2,c3,c4,lr9⟩:=KsO.last HA.out.k))|(go_simp;replace HA:=hJ (HA.out.setk (.slice (some ⟨g9,0,none⟩) (l.length+1) cap9));refine(hR.h .spread _ _ _ HA.out.s hne).mono ?_;intro e w7 h1;rw [HX.out] at h1;obtain⟨v,rfl,hn,hs7,hp7⟩:=h1;obtain⟨ax,cx,rfl,hn⟩:=hn.form;have HIx:=hJ hn;clear zp0 yp0 zk0 yk0 lp lk;(try clear fr0 fr1 fr2 fr3 fr4 c0 c1 c2 c3 c4 lr9);replace HA:=hJ (HA.out.call hs7 hp7);clear hs7 hp7 hn;obtain⟨zp0,yp0⟩:=HA.out.bp.fs;obtain⟨zk0,yk0⟩:=HA.out.bk.fs;have lp:=HA.out.bp.lt;have lk:=HA.out.bk.lt;(try obtain⟨⟨fr0,fr1,fr2,fr3,fr4⟩,c0,c1,c2,c3,c4,lr9⟩:=KsO.last HA.out.k))|((refine step_append_lies _ (by rfl) _ _ _ (by rfl) w0.heap.size 27 i0 _ 5 64 (by kernel_rfl) hi hz0 hz1 hz2 (by rfl) (by decide) (.slice sa l.length sc) l.length (l.flatMap aa8) (by rfl) ((HA.out.k.own.alloc _)) ⟨w.heap.size,0,none⟩ 1 1 (aa8 (Nd.zero,none,0)) (by rfl) (by rfl) (World.news_of_block (heap_alloc_new _ _)) (ad9 _) (by decide) (by unfold maxLen;omega) (by omega) (by simp;omega) (w.heap.size+1) (by simp) ?_;intro g9 cap9 w9 hown9 hg9 hat9 hlt9;obtain⟨F9,hF9,hn9,ha9⟩:=HA.out.push (o:=(.cells #[.int .i64 0,.string ⟨#[]⟩,.slice none 0 0,.int .i64 0,.int .i64 0] 27)) hown9 ⟨hg9.os,hg9.tape,hg9.output,hg9.size,hg9.block⟩ (hat9.imp (fun e=>e.symm) (fun e=>congrArg some e));replace HFF:=hJ fun k h=>hF9 k (HFF.out k h);(try replace HIx:=hJ (hn9 _ _ HIx.out));have HL9:=hJ hlt9;clear zp0 yp0 zk0 yk0 lp lk;replace HA:=hJ ha9;clear hown9 hg9 hat9 hF9 hn9 ha9;obtain⟨zp0,yp0⟩:=HA.out.bp.fs;obtain⟨zk0,yk0⟩:=HA.out.bk.fs;have lp:=HA.out.bp.lt;have lk:=HA.out.bk.lt;obtain⟨⟨fr0,fr1,fr2,fr3,fr4⟩,c0,c1,c2,c3,c4,lr9⟩:=KsO.last HA.out.k;have hg9b:=(aa5 HA.out.k.own (g:=g9) rfl).2;have e9k:gk≠g9:=(by omega);have e9l:g9≠gk:=(by omega);have e9p:gp≠g9:=(by omega);have e9q:g9≠gp:=(by omega)))|((refine step_append_lies _ (by rfl) _ _ _ (by rfl) w0.heap.size 27 i0 _ 5 64 (by kernel_rfl) hi hz0 hz1 hz2 (by rfl) (by decide) (.slice sa l.length sc) l.length (l.flatMap aa8) (by rfl) ((HA.out.k.own.alloc _)) ⟨w7.heap.size,0,none⟩ 1 1 (aa8 (Nd.zero,none,0)) (by rfl) (by rfl) (World.news_of_block (heap_alloc_new _ _)) (ad9 _) (by decide) (by unfold maxLen;omega) (by omega) (by have:=HA.out.bs;simp;omega) (w7.heap.size+1) (by simp) ?_;intro g9 cap9 w9 hown9 hg9 hat9 hlt9;obtain⟨F9,hF9,hn9,ha9⟩:=HA.out.push (o:=(.cells #[.int .i64 0,.string ⟨#[]⟩,.slice none 0 0,.int .i64 0,.int .i64 0] 27)) hown9 hg9 (hat9.imp (fun e=>e.symm) (fun e=>congrArg some e));replace HFF:=hJ fun k h=>hF9 k (HFF.out k h);(try replace HIx:=hJ (hn9 _ _ HIx.out));have HL9:=hJ hlt9;clear zp0 yp0 zk0 yk0 lp lk;replace HA:=hJ ha9;clear hown9 hg9 hat9 hF9 hn9 ha9;obtain⟨zp0,yp0⟩:=HA.out.bp.fs;obtain⟨zk0,yk0⟩:=HA.out.bk.fs;have lp:=HA.out.bp.lt;have lk:=HA.out.bk.lt;obtain⟨⟨fr0,fr1,fr2,fr3,fr4⟩,c0,c1,c2,c3,c4,lr9⟩:=KsO.last HA.out.k;have hg9b:=(aa5 HA.out.k.own (g:=g9) rfl).2;have e9k:gk≠g9:=(by omega);have e9l:g9≠gk:=(by omega);have e9p:gp≠g9:=(by omega);have e9q:g9≠gp:=(by omega)))|((refine step_append_lies _ (by rfl) _ _ _ (by rfl) w0.heap.size 27 i0 _ 5 64 (by kernel_rfl) hi hz0 hz1 hz2 (by rfl) (by decide) (.slice sa l.length sc) l.length (l.flatMap aa8) (by rfl) (HA.out.k.own) ⟨w.heap.size,0,none⟩ 1 1 (aa8 (Nd.zero,none,0)) (by rfl) (by rfl) (World.news_of_block HZ.out) (ad9 _) (by decide) (by unfold maxLen;omega) (by omega) (HA.out.bs) (w7.heap.size) (rfl) ?_;intro g9 cap9 w9 hown9 hg9 hat9 hlt9;obtain⟨F9,hF9,hn9,ha9⟩:=HA.out.push0 hown9 hg9 (hat9.imp (fun e=>e.symm) (fun e=>congrArg some e));replace HFF:=hJ fun k h=>hF9 k (HFF.out k h);(try replace HIx:=hJ (hn9 _ _ HIx.out));have HL9:=hJ hlt9;clear zp0 yp0 zk0 yk0 lp lk;replace HA:=hJ ha9;clear hown9 hg9 hat9 hF9 hn9 ha9;obtain⟨zp0,yp0⟩:=HA.out.bp.fs;obtain⟨zk0,yk0⟩:=HA.out.bk.fs;have lp:=HA.out.bp.lt;have lk:=HA.out.bk.lt;obtain⟨⟨fr0,fr1,fr2,fr3,fr4⟩,c0,c1,c2,c3,c4,lr9⟩:=KsO.last HA.out.k;have hg9b:=(aa5 HA.out.k.own (g:=g9) rfl).2;have e9k:gk≠g9:=(by omega);have e9l:g9≠gk:=(by omega);have e9p:gp≠g9:=(by omega);have e9q:g9≠gp:=(by omega))))
   all_goals
    go_wp2_with fail
    go_meet
    refine⟨_,.slice (some ⟨g9,0,none⟩) (l.length+1) cap9,ax,cx,HFF.out,?_⟩
    first|(with_reducible exact(HA.out.last HIx.out).setk _)|(with_reducible exact(HA.out.setk _).last (HA.out.setk_is _ HIx.out))|(with_reducible exact HA.out.last HIx.out)
  case rest=>
   obtain⟨F2,v',ax,cx,hFF2,hA2⟩:=hcut
   generalize wc=w3 at*
   have HFF3:=hJ hFF2
   have HS2:=hJ hA2.s
   have HA2:=hJ hA2
   obtain⟨g5,cap5,rfl,k0,k1,k2,k3,k4,lg5⟩:=hA2.k.lastc
   have hx5:=hA2.k.is (x,ax,cx) (by simp)
   have HI:=hJ (show IsP E F2 w3 x (.agg #[.int .i64 x.kind,.string x.text,.slice ax x.kids.length cx,.int .i64 x.from',.int .i64 x.till]) from hx5)
   dsimp only at k0 k1 k2 k3 k4
   clear hA2 hFF2 hx5 zp0 yp0 zk0 yk0 lp lk HA HFF
   have HD2:=hJ ((HI.out.only (Only.refl _ _).drew HS2.out.lt HS2.out.notF))
   have HSD:=hJ HS2.out.drew
   have HPD:=hJ (HA2.out.p.adv HS2.out (Only.refl _ _).drew)
   have n5:((l.length+1:Nat):Int) - 1=(l.length:Int):=by omega
   have n6:(l.length:Int)+1 - 1=(l.length:Int):=by omega
   have n7:IntKind.i64.wrap (((l.length+1:Nat):Int) - 1)=(l.length:Int):=by rw [IntKind.wrap_i64];omega
   have n9:IntKind.i64.wrap (l.length:Int)=(l.length:Int):=by rw [IntKind.wrap_i64];omega
   have n8:IntKind.i64.wrap ((l.length:Int)+1 - 1)=(l.length:Int):=by rw [IntKind.wrap_i64];omega
   obtain⟨zp0,yp0⟩:=HA2.out.bp.fs
   obtain⟨zk0,yk0⟩:=HA2.out.bk.fs
   have lp:=HA2.out.bp.lt
   have lk:=HA2.out.bk.lt
   go_wp2_with fail
   rcases PM.cases HT.out HN.out with ⟨u9,q2,hx,hk⟩|⟨c,i,hx,hk⟩
   ·have HX2:=hJ hx
    have hne2:=PM.ne HT.out HN.out
    replace HT:=hJ hk
    clear hx hk
    go_region_with (first|(go_at_call 303;refine(S.comma hR.ok x _ HD2.out HSD.out hne2).mono ?_;intro e w4 h1;rw [HX2.out] at h1;obtain⟨v,rfl,rfl,hs4,hp4⟩:=h1))
    all_goals
     have HA4:=hJ ((HA2.out.same (Only.refl _ _).drew).choose_spec)
     have hA5:=HA2.out
     have ho:=Only.refl (fun _=>False) w3
     have HQ4:=hJ (PB.then HPD.out hp4)
     have HS4:=hJ hs4
     have hbp4:=hJ (HA2.out.bp.same ((HSD.out.box hp4 HA2.out.mp).trans rfl))
     have hbk4:=hJ (HA2.out.bk.same ((HSD.out.box hp4 HA2.out.mgk).trans rfl))
     have hk4:=hJ ((HA2.out.k.only HS2.out (Only.refl _ _).drew).pb HSD.out hp4)
     have hbs4:=hJ (Nat.le_trans HA2.out.bs (PB.only hp4).size)
     clear hA5 ho hs4 hp4 HA4 zp0 yp0 zk0 yk0 lp lk k0 k1 k2 k3 k4 lg5
     go_wp2_with fail
     exact bodyPost_end (results_none rfl _ _ _) rfl (AnsC.ok HT.out.symm (fun j hj=>HFF3.out j (HF.out j hj)) ⟨l++ [(x,ax,cx)],_,by rw [List.map_append,HL.out];rfl,HA2.out.mp,hbp4.out,HA2.out.mgk,hbk4.out,hk4.out,hgk,hgp,hbs4.out⟩ HS4.out HQ4.out)
   ·have HX2:=hJ hx
    have hne2:=PM.ne HT.out HN.out
    replace HT:=hJ hk
    clear hx hk
    go_region_with (first|(go_at_call 303;refine af8 (.tuple #[]) (S.comma hR.ok x _ HD2.out HSD.out hne2) HX2.out (fun w9 hp9=>by (go_wp2_with fail);exact⟨rfl,AnsC.bad HT.out (HPD.out.then hp9)⟩) ?_;intro hf;have HFX:=hJ hf;clear hf))
    all_goals exact HFX.out.elim
 ·have HX:=hJ hx
  have hne:=PM.ne HT.out HN.out
  replace HT:=hJ hk
  clear hx hk
  go_cut [] from 2 to 8 (fun _=>False)
  case first=>
   go_region_law (first|(refine bp9 HFX.out (.slice (some ⟨0,0,none⟩) (l.length+1) (l.length+1)) ?_)|(go_simp;refine af8 (.agg #[.int .i64 0,.string ⟨#[]⟩,.slice none 0 0,.int .i64 0,.int .i64 0]) (hR.h .spread _ _ _ HA.out.s hne) HX.out (fun w9 hp9=>by (go_wp2_with fail);exact⟨rfl,AnsC.bad HT.out (HA.out.p.then hp9)⟩) ?_;intro hf;have HFX:=hJ hf;clear hf;clear zp0 yp0 zk0 yk0 lp lk;have cF: ∀(W:World) (a:Addr),W.cell? a=some (.slice sa l.length sc):=fun _ _=>HFX.out.elim;have fF: ∀(W:World) (a:Addr),W.frozen? a=false:=fun _ _=>HFX.out.elim)|(go_simp;refine ApS.go HA.out (Only.alloc (Only.refl _ _) _) ?_;intro F8 hF8 hnew8 hn8 ha8;replace HFF:=hJ fun k h=>hF8 k (HFF.out k h);replace HA:=hJ ha8;clear hF8 hnew8 hn8 ha8;refine af8 (.agg #[.int .i64 0,.string ⟨#[]⟩,.slice none 0 0,.int .i64 0,.int .i64 0]) (hR.h .spread _ _ _ HA.out.s hne) HX.out (fun w9 hp9=>by (go_wp2_with fail);exact⟨rfl,AnsC.bad HT.out (HA.out.p.then hp9)⟩) ?_;intro hf;have HFX:=hJ hf;clear hf;clear zp0 yp0 zk0 yk0 lp lk;have cF: ∀(W:World) (a:Addr),W.cell? a=some (.slice sa l.length sc):=fun _ _=>HFX.out.elim;have fF: ∀(W:World) (a:Addr),W.frozen? a=false:=fun _ _=>HFX.out.elim)|(go_simp;replace HA:=hJ (HA.out.setk (.slice (some ⟨g9,0,none⟩) (l.length+1) cap9));refine af8 (.agg #[.int .i64 0,.string ⟨#[]⟩,.slice none 0 0,.int .i64 0,.int .i64 0]) (hR.h .spread _ _ _ HA.out.s hne) HX.out (fun w9 hp9=>by (go_wp2_with fail);exact⟨rfl,AnsC.bad HT.out (HA.out.p.then hp9)⟩) ?_;intro hf;have HFX:=hJ hf;clear hf;clear zp0 yp0 zk0 yk0 lp lk;have cF: ∀(W:World) (a:Addr),W.cell? a=some (.slice sa l.length sc):=fun _ _=>HFX.out.elim;have fF: ∀(W:World) (a:Addr),W.frozen? a=false:=fun _ _=>HFX.out.elim)|((refine step_append_lies _ (by rfl) _ _ _ (by rfl) w0.heap.size 27 i0 _ 5 64 (by kernel_rfl) hi hz0 hz1 hz2 (by rfl) (by decide) (.slice sa l.length sc) l.length (l.flatMap aa8) (by rfl) ((HA.out.k.own.alloc _)) ⟨w.heap.size,0,none⟩ 1 1 (aa8 (Nd.zero,none,0)) (by rfl) (by rfl) (World.news_of_block (heap_alloc_new _ _)) (ad9 _) (by decide) (by unfold maxLen;omega) (by omega) (by simp;omega) (w.heap.size+1) (by simp) ?_;intro g9 cap9 w9 hown9 hg9 hat9 hlt9;obtain⟨F9,hF9,hn9,ha9⟩:=HA.out.push (o:=(.cells #[.int .i64 0,.string ⟨#[]⟩,.slice none 0 0,.int .i64 0,.int .i64 0] 27)) hown9 ⟨hg9.os,hg9.tape,hg9.output,hg9.size,hg9.block⟩ (hat9.imp (fun e=>e.symm) (fun e=>congrArg some e));replace HFF:=hJ fun k h=>hF9 k (HFF.out k h);(try replace HIx:=hJ (hn9 _ _ HIx.out));have HL9:=hJ hlt9;clear zp0 yp0 zk0 yk0 lp lk;replace HA:=hJ ha9;clear hown9 hg9 hat9 hF9 hn9 ha9;obtain⟨zp0,yp0⟩:=HA.out.bp.fs;obtain⟨zk0,yk0⟩:=HA.out.bk.fs;have lp:=HA.out.bp.lt;have lk:=HA.out.bk.lt;obtain⟨⟨fr0,fr1,fr2,fr3,fr4⟩,c0,c1,c2,c3,c4,lr9⟩:=KsO.last HA.out.k;have hg9b:=(aa5 HA.out.k.own (g:=g9) rfl).2;have e9k:gk≠g9:=(by omega);have e9l:g9≠gk:=(by omega);have e9p:gp≠g9:=(by omega);have e9q:g9≠gp:=(by omega))))
   all_goals exact HFX.out.elim
  case rest=>exact hcut.elim
end
end Go.Proofs.YtnobjeelihkjmaaGreatDoor
