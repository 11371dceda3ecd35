/- Steps (Q9). Conditions: as stated. -/
import Derived.Test.YtnobjeelihkjmaaGreatDoorZk26
set_option maxHeartbeats 40000000
set_option maxRecDepth 100000
namespace Go.Proofs.YtnobjeelihkjmaaGreatDoor
section
open Go.RowKit
attribute [local go_sem] ab3 ab4 ab5 ab6 ab7 ab8
attribute [local go_sem ↓] Go.wp_at_zero Go.wp_at_succ
section
variable {E:PE} {F X:Nat→Prop} {w W:World} {base gp gk:Nat} {vk vr:Value} {l:List Kd} {q:Ps} {α β:Type} {f:FuncId} {args:Array Value} {K:Ending→World→Prop}
theorem ApS.stepV {x:PM α} {k:α→PM β} {T:Res β} {vf:α→Value} (h:ApS E F X w base gp gk vk vr l q W) (hT:Hid ((x>>=k) q=T)) (hn:Hid (T≠ .out)) (hc:x q≠ .out→Calls Tryz.prog f args W (Ans E F X0 W (x q) fun a v _=>v=vf a))
  (hb: ∀c i W',T= .bad c i→PB E.b X w W'→K (.panicked (flt c i)) W') (hok: ∀a q' W',Hid (k a q'=T)→Hid (ApS E F X w base gp gk vk vr l q' W')→K (.returned (vf a)) W'):Calls Tryz.prog f args W K:=by
 refine(hc (PM.ne hT.out hn.out)).mono fun e W' h1=> ?_
 rcases PM.cases hT.out hn.out with ⟨a,q',hx,hk⟩|⟨c,i,hx,hk⟩
 ·rw [hx] at h1
  obtain⟨v,rfl,rfl,hs,hp⟩:=h1
  exact hok a q' W' (hJ hk) (hJ (h.call hs hp))
 ·rw [hx] at h1
  obtain⟨rfl,hp⟩:=h1
  exact hb c i W' hk (h.p.then hp)
theorem ApS.stepQ {v:Value} (h:ApS E F X w base gp gk vk vr l q W) (hc:Calls Tryz.prog f args W fun e w'=>e= .returned v∧Below W.heap.size W w') (hok: ∀F1 W',(∀k,F k→F1 k)→Hid (ApS E F1 X w base gp gk vk vr l q W')→K (.returned v) W'):Calls Tryz.prog f args W K:=by
 refine hc.mono fun e W' h1=> ?_
 obtain⟨rfl,hb⟩:=h1
 obtain⟨F1,h1,_,_,h2⟩:=h.same (Only.of_below hb)
 exact hok F1 W' h1 (hJ h2)
end
theorem ApS.drew {E:PE} {F X:Nat→Prop} {w W:World} {base gp gk:Nat} {vk vr:Value} {l:List Kd} {q:Ps} (h:ApS E F X w base gp gk vk vr l q W):ApS E F X w base gp gk vk vr l q W.drew:=
 ⟨h.s.drew,h.p.adv h.s (Only.refl _ _).drew,h.mp,h.bp,h.mgk,h.bk,h.k.only h.s (Only.refl _ _).drew,h.lgk,h.lgp,h.x,h.r,h.bs⟩
theorem ApS.last0 {E:PE} {F X:Nat→Prop} {w W:World} {base gp gk:Nat} {vk:Value} {l:List Kd} {q:Ps} {g cap:Nat} (h:ApS E F X w base gp gk vk (.slice (some ⟨g,0,none⟩) (l.length+1) cap) (l++ [(Nd.zero,none,0)]) q W):
  ApS E F X w base gp gk vk (.slice (some ⟨g,0,none⟩) (l.length+1) cap) (l++ [(Nd.zero,none,0)]) q (((((W.setCell ⟨g,l.length*5,none⟩ (.int .i64 0)).setCell ⟨g,l.length*5+1,none⟩ (.string ⟨#[]⟩)).setCell ⟨g,l.length*5+2,none⟩ (.slice none 0 0)).setCell ⟨g,l.length*5+3,none⟩ (.int .i64 0)).setCell ⟨g,l.length*5+4,none⟩ (.int .i64 0)):=
 h.last (n:=Nd.zero) (a:=none) (c:=0) (av9 _ _ _)
theorem aq4 {E:PE} {F:Nat→Prop} {w w1:World} {gb:Nat} {T:Res (List Nd)} {A:List Nd→Value→World→Prop} {c i:Int} (ht:T= .bad c i) (hp:PB E.b (fun j=>j=gb∨w.heap.size≤j) w w1):Ans E F (fun k=>k=gb) w T A (.panicked (flt c i)) w1:=
 Ans.bad ht ((PB.refl E.b (fun k=>k=gb) w).trans' hp fun _ h=>h)
def ArL (E:PE) (R:(x:Fn)→PM x.Out) (F:Nat→Prop) (w:World) (gp gb:Nat) (T:Res (List Nd)) (k:Nat) (wr:World):Prop:=
 ∃(F2:Nat→Prop) (l:List Kd) (v:Value) (q:Ps),az5 E.s R k (l.map (·.1)) q=T∧(∀j,F j→F2 j)∧ApS E F2 (fun j=>j=gb∨w.heap.size≤j) w w.heap.size gp gb v v l q wr
theorem bc8 (E:PE) (gb:Nat):aM2 E (fun F (r:List Nd) w'=>(∃v,ac2 w' gb v 25∧KsIn E F w' r v)∧F gb):=fun _ _ _ _ h hF ho hw=>⟨⟨h.1.choose,h.1.choose_spec.1.same (bz8 ho h.1.choose_spec.1.lt fun e=>hF (e▸h.2)),h.1.choose_spec.2.sameE ho hw⟩,h.2⟩
theorem C.array1 {E:PE} {R:(x:Fn)→PM x.Out} (hR:Env E R) (f:Nat) {gp gb:Nat} :
  CloS E (fun k=>k=gb) [(gp,false,.p E.b),(gb,true,.c1 (.slice none 0 0) 25)] (fun F (r:List Nd) w'=>(∃v,ac2 w' gb v 25∧KsIn E F w' r v)∧F gb) (az5 E.s R f []) 308 #[.pointer (some ⟨gp,0,none⟩),.pointer (some ⟨gb,0,none⟩)]:=by
 intro F w p h hB hd hne
 obtain⟨hgp,hB0⟩:=hB (gp,false,.p E.b) (by simp)
 obtain⟨hgb,hB1⟩:=hB (gb,true,.c1 (.slice none 0 0) 25) (by simp)
 replace hB0:PrAt w gp E.b:=hB0
 replace hB1:ac2 w gb (.slice none 0 0) 25:=hB1
 clear hB hd
 obtain⟨T,hT⟩: ∃T,az5 E.s R f [] p=T:=⟨_,rfl⟩
 rw [hT] at hne⊢
 obtain⟨i0,hi,hz0,hz1,hz2⟩:=info_parts ak2
 have HT0:=hJ hT
 have HN:=hJ hne
 have hgbb:=hB1.lt
 have hgpp:=hB0.lt
 have HFO:=hJ (fun(k:Nat) (hk:F k)=>(h.fo k hk).2.1)
 have HA0:Hid (ApS E F (fun j=>j=gb∨w.heap.size≤j) w w.heap.size gp gb (.slice none 0 0) (.slice none 0 0) [] p w):=hJ ⟨h,PB.refl E.b _ w,hgp,hB0,hgb,hB1,KsO.nil _ _ _ _,hB1.lt,hB0.lt,.inl rfl,fun j hj=> .inr hj,Nat.le_refl _⟩
 clear h hne hT hB0 hB1
 go_enter Tryz.func308,Tryz.ntmps308
 go_wp2_with fail
 go_loopg [] f (fun k wr=>ArL E R F w gp gb T k wr)
 case atStart=>exact⟨F,[],_,p,HT0.out,fun _ h=>h,HA0.out⟩
 case round=>
  clear HT0 HA0
  obtain⟨F2,l,v,q,hT,hFF,hA⟩:=hrel
  have HT:=hJ hT
  have HFF:=hJ hFF
  have HA:=hJ hA
  clear hT hFF hA
  cases gk with
  |zero=>exact absurd HT.out.symm HN.out
  |succ k=>
   unfold az5 at HT
   by_cases hbig:4194304<(l.map (·.1)).length
   ·rw [if_pos hbig] at HT
    exact absurd HT.out.symm HN.out
   rw [if_neg hbig] at HT
   have hlen:l.length≤4194304:=by rw [List.length_map] at hbig;omega
   obtain⟨sa,sc,rfl⟩:=HA.out.k.len
   have n1:(l.length:Int)<((l.length+1:Nat):Int):=by omega
   have n2:(l.length:Int)<(l.length:Int)+1:=by omega
   have n3:(0:Int)≤(l.length:Int):=by omega
   clear hbig
   obtain⟨zp0,yp0⟩:=HA.out.bp.fs;obtain⟨zk0,yk0⟩:=HA.out.bk.fs;have lp:=HA.out.bp.lt;have lk:=HA.out.bk.lt;have lb:=HA.out.bs
   go_wp2_with fail
   refine HA.out.stepV HT HN (fun e=>P.peek hR.ok 2 HA.out.s e) ?_ ?_
   ·intro c i W' hT' hp';go_wp2_with fail;exact⟨rfl,aq4 hT' hp'⟩
   clear HT HA zp0 yp0 zk0 yk0 lp lk lb
   intro t q2 w2 HT HA
   obtain⟨zp0,yp0⟩:=HA.out.bp.fs;obtain⟨zk0,yk0⟩:=HA.out.bk.fs;have lp:=HA.out.bp.lt;have lk:=HA.out.bk.lt;have lb:=HA.out.bs
   go_wp2_with fail
   refine HA.out.stepQ (P.punct t ⟨#[93]⟩ _) ?_
   clear HA zp0 yp0 zk0 yk0 lp lk lb
   intro F3 w3 h3 HA
   replace HFF:=hJ fun k h=>h3 k (HFF.out k h)
   clear h3
   obtain⟨zp0,yp0⟩:=HA.out.bp.fs;obtain⟨zk0,yk0⟩:=HA.out.bk.fs;have lp:=HA.out.bp.lt;have lk:=HA.out.bk.lt;have lb:=HA.out.bs
   cases hb:aa2 t ⟨#[93]⟩ with
   |true=>
    rw [if_pos hb] at HT
    have hk0:KbR E gp gb w.heap.size (l.map (·.1)) F3 w3:=⟨l,_,rfl,HA.out.mp,HA.out.bp,HA.out.mgk,HA.out.bk,HA.out.k,HA.out.lgk,HA.out.lgp,HA.out.bs⟩
    have HD:=hJ (hk0.done HA.out.s HFF.out HFO.out)
    have HP:=hJ ((PB.refl E.b (fun k=>k=gb) w).trans' HA.out.p fun _ h=>h)
    clear hk0 HA zp0 yp0 zk0 yk0 lp lk lb
    go_wp2_with fail
    obtain⟨hs3,v,hc,hk⟩:=HD.out
    exact bodyPost_end (results_none rfl _ _ _) rfl (Ans.ok HT.out.symm ⟨rfl,⟨v,hc,hk⟩,hgb⟩ hs3 HP.out)
   |false=>
    rw [if_neg (by rw [hb];decide)] at HT
    go_wp2_with fail
    refine HA.out.stepV HT HN (fun e=>P.is hR.ok ⟨#[44]⟩ HA.out.s e) ?_ ?_
    ·intro c i W' hT' hp';go_wp2_with fail;exact⟨rfl,aq4 hT' hp'⟩
    clear HT HA zp0 yp0 zk0 yk0 lp lk lb
    intro b q3 w4 HT HA
    obtain⟨zp0,yp0⟩:=HA.out.bp.fs;obtain⟨zk0,yk0⟩:=HA.out.bk.fs;have lp:=HA.out.bp.lt;have lk:=HA.out.bk.lt;have lb:=HA.out.bs
    cases b with
    |true=>
     rw [if_pos rfl] at HT
     replace HA:=hJ HA.out.drew
     go_wp2_with fail
     go_cut [] from 8 to 13 (fun wx=> ∃(F4:Nat→Prop) (v':Value),(∀k,F k→F4 k)∧ApS E F4 (fun j=>j=gb∨w.heap.size≤j) w w.heap.size gp gb v' v' (l++ [(Nd.zero,none,0)]) q3 wx)
     case first=>
      go_region_law (first|((refine step_append_lies _ (by rfl) _ _ _ (by rfl) w.heap.size 27 i0 _ 5 64 (by kernel_rfl) hi hz0 hz1 hz2 (by rfl) (by decide) (.slice sa l.length sc) l.length (l.flatMap aa8) (by rfl) ((HA.out.k.own.alloc _)) ⟨w4.heap.size,0,none⟩ 1 1 (aa8 (Nd.zero,none,0)) (by rfl) (by rfl) (World.news_of_block (heap_alloc_new _ _)) (ad9 _) (by decide) (by unfold maxLen;omega) (by omega) (by have:=HA.out.bs;simp at this⊢;omega) (w4.heap.size+1) (by simp) ?_;intro g9 cap9 w9 hown9 hg9 hat9 hlt9;obtain⟨F9,hF9,hn9,ha9⟩:=HA.out.push (o:=(.cells #[.int .i64 0,.string ⟨#[]⟩,.slice none 0 0,.int .i64 0,.int .i64 0] 27)) hown9 ⟨hg9.os,hg9.tape,hg9.output,hg9.size,hg9.block⟩ (hat9.imp (fun e=>e.symm) (fun e=>congrArg some e));replace HFF:=hJ fun k h=>hF9 k (HFF.out k h);(try replace HIx:=hJ (hn9 _ _ HIx.out));have HL9:=hJ hlt9;clear zp0 yp0 zk0 yk0 lp lk lb;replace HA:=hJ ha9;clear hown9 hg9 hat9 hF9 hn9 ha9;obtain⟨zp0,yp0⟩:=HA.out.bp.fs;obtain⟨zk0,yk0⟩:=HA.out.bk.fs;have lp:=HA.out.bp.lt;have lk:=HA.out.bk.lt;have lb:=HA.out.bs;obtain⟨⟨fr0,fr1,fr2,fr3,fr4⟩,c0,c1,c2,c3,c4,lr9⟩:=KsO.last HA.out.k;have hg9b:=(aa5 HA.out.k.own (g:=g9) rfl).2;have e9k:gb≠g9:=(by omega);have e9l:g9≠gb:=(by omega);have e9p:gp≠g9:=(by omega);have e9q:g9≠gp:=(by omega))))
      all_goals
       go_wp2_with fail
       go_meet
       refine⟨_,.slice (some ⟨g9,0,none⟩) (l.length+1) cap9,HFF.out,?_⟩
       first|(with_reducible exact HA.out.last0.setk _)|(with_reducible exact(HA.out.setk _).last0)|(with_reducible exact HA.out.last0)
     case rest=>
      obtain⟨F4,v',hFF2,hA2⟩:=hcut
      generalize wc=w5 at*
      replace HFF:=hJ hFF2
      replace HA:=hJ hA2
      clear hFF2 hA2 zp0 yp0 zk0 yk0 lp lk lb
      go_wp2_with fail
      go_roundg k
      case measure=>exact Nat.lt_succ_self k
      case rel=>exact⟨_,l++ [(Nd.zero,none,0)],_,_,by rw [List.map_append];exact HT.out,HFF.out,HA.out⟩
    |false=>
     rw [if_neg (by decide)] at HT
     replace HA:=hJ HA.out.drew
     go_wp2_with fail
     rcases PM.cases HT.out HN.out with ⟨x,q4,hx,hk⟩|⟨c,i,hx,hk⟩
     ·have HX:=hJ hx
      have hne:=PM.ne HT.out HN.out
      replace HT:=hJ hk
      clear hx hk
      go_cut [] from 14 to 20 (fun wx=> ∃(F4:Nat→Prop) (v':Value) (ax:Option Addr) (cx:Nat),(∀k,F k→F4 k)∧ApS E F4 (fun j=>j=gb∨w.heap.size≤j) w w.heap.size gp gb v' v' (l++ [(x,ax,cx)]) q4 wx)
      case first=>
       go_region_law (first|(go_simp;refine(hR.h .spread _ _ _ HA.out.s hne).mono ?_;intro e w7 h1;rw [HX.out] at h1;obtain⟨v,rfl,hn,hs7,hp7⟩:=h1;obtain⟨ax,cx,rfl,hn⟩:=hn.form;have HIx:=hJ hn;clear zp0 yp0 zk0 yk0 lp lk lb;(try clear fr0 fr1 fr2 fr3 fr4 c0 c1 c2 c3 c4 lr9);replace HA:=hJ (HA.out.call hs7 hp7);clear hs7 hp7 hn;obtain⟨zp0,yp0⟩:=HA.out.bp.fs;obtain⟨zk0,yk0⟩:=HA.out.bk.fs;have lp:=HA.out.bp.lt;have lk:=HA.out.bk.lt;have lb:=HA.out.bs;(try obtain⟨⟨fr0,fr1,fr2,fr3,fr4⟩,c0,c1,c2,c3,c4,lr9⟩:=KsO.last HA.out.k))|(go_simp;refine ApS.go HA.out (Only.alloc (Only.refl _ _) _) ?_;intro F8 hF8 hnew8 hn8 ha8;replace HFF:=hJ fun k h=>hF8 k (HFF.out k h);replace HA:=hJ ha8;have hz8:F8 w4.heap.size:=hnew8 _ (Nat.le_refl _) (by simp);clear hF8 hnew8 hn8 ha8;refine(hR.h .spread _ _ _ HA.out.s hne).mono ?_;intro e w7 h1;rw [HX.out] at h1;obtain⟨v,rfl,hn,hs7,hp7⟩:=h1;obtain⟨ax,cx,rfl,hn⟩:=hn.form;have HIx:=hJ hn;have HZ:Hid (ab0 w7 w4.heap.size 0 ⟨#[]⟩ none 0 0 0 0):=hJ (ab0.same (w:=w4.alloc (.cells #[.int .i64 0,.string ⟨#[]⟩,.slice none 0 0,.int .i64 0,.int .i64 0] 27)) (ab0.new rfl) (HA.out.s.box hp7 hz8));clear zp0 yp0 zk0 yk0 lp lk lb;(try clear fr0 fr1 fr2 fr3 fr4 c0 c1 c2 c3 c4 lr9);replace HA:=hJ (HA.out.call hs7 hp7);clear hs7 hp7 hn;obtain⟨zp0,yp0⟩:=HA.out.bp.fs;obtain⟨zk0,yk0⟩:=HA.out.bk.fs;have lp:=HA.out.bp.lt;have lk:=HA.out.bk.lt;have lb:=HA.out.bs;(try obtain⟨⟨fr0,fr1,fr2,fr3,fr4⟩,c0,c1,c2,c3,c4,lr9⟩:=KsO.last HA.out.k))|(go_simp;replace HA:=hJ (HA.out.setk (.slice (some ⟨g9,0,none⟩) (l.length+1) cap9));refine(hR.h .spread _ _ _ HA.out.s hne).mono ?_;intro e w7 h1;rw [HX.out] at h1;obtain⟨v,rfl,hn,hs7,hp7⟩:=h1;obtain⟨ax,cx,rfl,hn⟩:=hn.form;have HIx:=hJ hn;clear zp0 yp0 zk0 yk0 lp lk lb;(try clear fr0 fr1 fr2 fr3 fr4 c0 c1 c2 c3 c4 lr9);replace HA:=hJ (HA.out.call hs7 hp7);clear hs7 hp7 hn;obtain⟨zp0,yp0⟩:=HA.out.bp.fs;obtain⟨zk0,yk0⟩:=HA.out.bk.fs;have lp:=HA.out.bp.lt;have lk:=HA.out.bk.lt;have lb:=HA.out.bs;(try obtain⟨⟨fr0,fr1,fr2,fr3,fr4⟩,c0,c1,c2,c3,c4,lr9⟩:=KsO.last HA.out.k))|((refine step_append_lies _ (by rfl) _ _ _ (by rfl) w.heap.size 27 i0 _ 5 64 (by kernel_rfl) hi hz0 hz1 hz2 (by rfl) (by decide) (.slice sa l.length sc) l.length (l.flatMap aa8) (by rfl) ((HA.out.k.own.alloc _)) ⟨w4.heap.size,0,none⟩ 1 1 (aa8 (Nd.zero,none,0)) (by rfl) (by rfl) (World.news_of_block (heap_alloc_new _ _)) (ad9 _) (by decide) (by unfold maxLen;omega) (by omega) (by have:=HA.out.bs;simp at this⊢;omega) (w4.heap.size+1) (by simp) ?_;intro g9 cap9 w9 hown9 hg9 hat9 hlt9;obtain⟨F9,hF9,hn9,ha9⟩:=HA.out.push (o:=(.cells #[.int .i64 0,.string ⟨#[]⟩,.slice none 0 0,.int .i64 0,.int .i64 0] 27)) hown9 ⟨hg9.os,hg9.tape,hg9.output,hg9.size,hg9.block⟩ (hat9.imp (fun e=>e.symm) (fun e=>congrArg some e));replace HFF:=hJ fun k h=>hF9 k (HFF.out k h);(try replace HIx:=hJ (hn9 _ _ HIx.out));have HL9:=hJ hlt9;clear zp0 yp0 zk0 yk0 lp lk lb;replace HA:=hJ ha9;clear hown9 hg9 hat9 hF9 hn9 ha9;obtain⟨zp0,yp0⟩:=HA.out.bp.fs;obtain⟨zk0,yk0⟩:=HA.out.bk.fs;have lp:=HA.out.bp.lt;have lk:=HA.out.bk.lt;have lb:=HA.out.bs;obtain⟨⟨fr0,fr1,fr2,fr3,fr4⟩,c0,c1,c2,c3,c4,lr9⟩:=KsO.last HA.out.k;have hg9b:=(aa5 HA.out.k.own (g:=g9) rfl).2;have e9k:gb≠g9:=(by omega);have e9l:g9≠gb:=(by omega);have e9p:gp≠g9:=(by omega);have e9q:g9≠gp:=(by omega)))|((refine step_append_lies _ (by rfl) _ _ _ (by rfl) w.heap.size 27 i0 _ 5 64 (by kernel_rfl) hi hz0 hz1 hz2 (by rfl) (by decide) (.slice sa l.length sc) l.length (l.flatMap aa8) (by rfl) ((HA.out.k.own.alloc _)) ⟨w7.heap.size,0,none⟩ 1 1 (aa8 (Nd.zero,none,0)) (by rfl) (by rfl) (World.news_of_block (heap_alloc_new _ _)) (ad9 _) (by decide) (by unfold maxLen;omega) (by omega) (by have:=HA.out.bs;simp;omega) (w7.heap.size+1) (by simp) ?_;intro g9 cap9 w9 hown9 hg9 hat9 hlt9;obtain⟨F9,hF9,hn9,ha9⟩:=HA.out.push (o:=(.cells #[.int .i64 0,.string ⟨#[]⟩,.slice none 0 0,.int .i64 0,.int .i64 0] 27)) hown9 hg9 (hat9.imp (fun e=>e.symm) (fun e=>congrArg some e));replace HFF:=hJ fun k h=>hF9 k (HFF.out k h);(try replace HIx:=hJ (hn9 _ _ HIx.out));have HL9:=hJ hlt9;clear zp0 yp0 zk0 yk0 lp lk lb;replace HA:=hJ ha9;clear hown9 hg9 hat9 hF9 hn9 ha9;obtain⟨zp0,yp0⟩:=HA.out.bp.fs;obtain⟨zk0,yk0⟩:=HA.out.bk.fs;have lp:=HA.out.bp.lt;have lk:=HA.out.bk.lt;have lb:=HA.out.bs;obtain⟨⟨fr0,fr1,fr2,fr3,fr4⟩,c0,c1,c2,c3,c4,lr9⟩:=KsO.last HA.out.k;have hg9b:=(aa5 HA.out.k.own (g:=g9) rfl).2;have e9k:gb≠g9:=(by omega);have e9l:g9≠gb:=(by omega);have e9p:gp≠g9:=(by omega);have e9q:g9≠gp:=(by omega)))|((refine step_append_lies _ (by rfl) _ _ _ (by rfl) w.heap.size 27 i0 _ 5 64 (by kernel_rfl) hi hz0 hz1 hz2 (by rfl) (by decide) (.slice sa l.length sc) l.length (l.flatMap aa8) (by rfl) (HA.out.k.own) ⟨w4.heap.size,0,none⟩ 1 1 (aa8 (Nd.zero,none,0)) (by rfl) (by rfl) (World.news_of_block HZ.out) (ad9 _) (by decide) (by unfold maxLen;omega) (by omega) (HA.out.bs) (w7.heap.size) (rfl) ?_;intro g9 cap9 w9 hown9 hg9 hat9 hlt9;obtain⟨F9,hF9,hn9,ha9⟩:=HA.out.push0 hown9 hg9 (hat9.imp (fun e=>e.symm) (fun e=>congrArg some e));replace HFF:=hJ fun k h=>hF9 k (HFF.out k h);(try replace HIx:=hJ (hn9 _ _ HIx.out));have HL9:=hJ hlt9;clear zp0 yp0 zk0 yk0 lp lk lb;replace HA:=hJ ha9;clear hown9 hg9 hat9 hF9 hn9 ha9;obtain⟨zp0,yp0⟩:=HA.out.bp.fs;obtain⟨zk0,yk0⟩:=HA.out.bk.fs;have lp:=HA.out.bp.lt;have lk:=HA.out.bk.lt;have lb:=HA.out.bs;obtain⟨⟨fr0,fr1,fr2,fr3,fr4⟩,c0,c1,c2,c3,c4,lr9⟩:=KsO.last HA.out.k;have hg9b:=(aa5 HA.out.k.own (g:=g9) rfl).2;have e9k:gb≠g9:=(by omega);have e9l:g9≠gb:=(by omega);have e9p:gp≠g9:=(by omega);have e9q:g9≠gp:=(by omega))))
       all_goals
        go_wp2_with fail
        go_meet
        refine⟨_,.slice (some ⟨g9,0,none⟩) (l.length+1) cap9,ax,cx,HFF.out,?_⟩
        first|(with_reducible exact(HA.out.last HIx.out).setk _)|(with_reducible exact(HA.out.setk _).last (HA.out.setk_is _ HIx.out))|(with_reducible exact HA.out.last HIx.out)
      case rest=>
       obtain⟨F4,v',ax,cx,hFF2,hA2⟩:=hcut
       generalize wc=w5 at*
       replace HFF:=hJ hFF2
       have HS2:=hJ hA2.s
       replace HA:=hJ hA2
       obtain⟨g5,cap5,rfl,k0,k1,k2,k3,k4,lg5⟩:=hA2.k.lastc
       have hx5:=hA2.k.is (x,ax,cx) (by simp)
       have HI:=hJ (show IsP E F4 w5 x (.agg #[.int .i64 x.kind,.string x.text,.slice ax x.kids.length cx,.int .i64 x.from',.int .i64 x.till]) from hx5)
       dsimp only at k0 k1 k2 k3 k4
       clear hA2 hFF2 hx5 zp0 yp0 zk0 yk0 lp lk lb hne
       have HD2:=hJ ((HI.out.only (Only.refl _ _).drew HS2.out.lt HS2.out.notF))
       have HAD:=hJ HA.out.drew
       have n5:((l.length+1:Nat):Int) - 1=(l.length:Int):=by omega
       have n6:(l.length:Int)+1 - 1=(l.length:Int):=by omega
       have n7:IntKind.i64.wrap (((l.length+1:Nat):Int) - 1)=(l.length:Int):=by rw [IntKind.wrap_i64];omega
       have n9:IntKind.i64.wrap (l.length:Int)=(l.length:Int):=by rw [IntKind.wrap_i64];omega
       have n8:IntKind.i64.wrap ((l.length:Int)+1 - 1)=(l.length:Int):=by rw [IntKind.wrap_i64];omega
       obtain⟨zp0,yp0⟩:=HA.out.bp.fs
       obtain⟨zk0,yk0⟩:=HA.out.bk.fs
       have lp:=HA.out.bp.lt
       have lk:=HA.out.bk.lt
       have lb:=HA.out.bs
       go_wp2_with fail
       rcases PM.cases HT.out HN.out with ⟨u9,q5,hx,hk⟩|⟨c,i,hx,hk⟩
       ·have HX2:=hJ hx
        have hne2:=PM.ne HT.out HN.out
        replace HT:=hJ hk
        clear hx hk
        go_region_with (first|(go_at_call 303;refine(S.comma hR.ok x _ HD2.out HAD.out.s hne2).mono ?_;intro e w6 h1;rw [HX2.out] at h1;obtain⟨v,rfl,rfl,hs4,hp4⟩:=h1))
        all_goals
         replace HA:=hJ (HAD.out.call hs4 hp4)
         clear hs4 hp4 HAD zp0 yp0 zk0 yk0 lp lk lb k0 k1 k2 k3 k4 lg5 HX HX2 HI HD2 HS2 n5 n6 n7 n8 n9 hne2
         obtain⟨zp0,yp0⟩:=HA.out.bp.fs;obtain⟨zk0,yk0⟩:=HA.out.bk.fs;have lp:=HA.out.bp.lt;have lk:=HA.out.bk.lt;have lb:=HA.out.bs
         go_wp2_with fail
         refine HA.out.stepV HT HN (fun e=>P.peek hR.ok 1 HA.out.s e) ?_ ?_
         ·intro c i W' hT' hp';go_wp2_with fail;exact⟨rfl,aq4 hT' hp'⟩
         clear HT HA zp0 yp0 zk0 yk0 lp lk lb
         intro u q6 w7 HT HA
         obtain⟨zp0,yp0⟩:=HA.out.bp.fs;obtain⟨zk0,yk0⟩:=HA.out.bk.fs;have lp:=HA.out.bp.lt;have lk:=HA.out.bk.lt;have lb:=HA.out.bs
         go_wp2_with fail
         refine HA.out.stepQ (P.punct u ⟨#[93]⟩ _) ?_
         clear HA zp0 yp0 zk0 yk0 lp lk lb
         intro F5 w8 h3 HA
         replace HFF:=hJ fun k h=>h3 k (HFF.out k h)
         clear h3
         obtain⟨zp0,yp0⟩:=HA.out.bp.fs;obtain⟨zk0,yk0⟩:=HA.out.bk.fs;have lp:=HA.out.bp.lt;have lk:=HA.out.bk.lt;have lb:=HA.out.bs
         cases hb2:aa2 u ⟨#[93]⟩ with
         |true=>
          rw [if_pos hb2] at HT
          clear zp0 yp0 zk0 yk0 lp lk lb
          go_wp2_with fail
          go_roundg k
          case measure=>exact Nat.lt_succ_self k
          case rel=>exact⟨_,l++ [(x,ax,cx)],_,_,by rw [List.map_append];exact HT.out,HFF.out,HA.out⟩
         |false=>
          rw [if_neg (by rw [hb2];decide)] at HT
          go_wp2_with fail
          refine HA.out.stepV HT HN (fun e=>P.want hR.ok ⟨#[44]⟩ HA.out.s e) ?_ ?_
          ·intro c i W' hT' hp';go_wp2_with fail;exact⟨rfl,aq4 hT' hp'⟩
          clear HT HA zp0 yp0 zk0 yk0 lp lk lb
          intro u2 q7 w9 HT HA
          go_wp2_with fail
          go_roundg k
          case measure=>exact Nat.lt_succ_self k
          case rel=>exact⟨_,l++ [(x,ax,cx)],_,_,by rw [List.map_append];exact HT.out,HFF.out,HA.out⟩
       ·have HX2:=hJ hx
        have hne2:=PM.ne HT.out HN.out
        replace HT:=hJ hk
        clear hx hk
        go_region_with (first|(go_at_call 303;refine af8 (.tuple #[]) (S.comma hR.ok x _ HD2.out HAD.out.s hne2) HX2.out (fun w9 hp9=>by (go_wp2_with fail);exact⟨rfl,aq4 HT.out (HAD.out.p.then hp9)⟩) ?_;intro hf;have HFX:=hJ hf;clear hf))
        all_goals exact HFX.out.elim
     ·have HX:=hJ hx
      have hne:=PM.ne HT.out HN.out
      replace HT:=hJ hk
      clear hx hk
      go_cut [] from 14 to 20 (fun _=>False)
      case first=>
       go_region_law (first|(refine bp9 HFX.out (.slice (some ⟨0,0,none⟩) (l.length+1) (l.length+1)) ?_)|(go_simp;refine af8 (.agg #[.int .i64 0,.string ⟨#[]⟩,.slice none 0 0,.int .i64 0,.int .i64 0]) (hR.h .spread _ _ _ HA.out.s hne) HX.out (fun w9 hp9=>by (go_wp2_with fail);exact⟨rfl,aq4 HT.out (HA.out.p.then hp9)⟩) ?_;intro hf;have HFX:=hJ hf;clear hf;clear zp0 yp0 zk0 yk0 lp lk lb;have cF: ∀(W:World) (a:Addr),W.cell? a=some (.slice sa l.length sc):=fun _ _=>HFX.out.elim;have fF: ∀(W:World) (a:Addr),W.frozen? a=false:=fun _ _=>HFX.out.elim)|(go_simp;refine ApS.go HA.out (Only.alloc (Only.refl _ _) _) ?_;intro F8 hF8 hnew8 hn8 ha8;replace HFF:=hJ fun k h=>hF8 k (HFF.out k h);replace HA:=hJ ha8;clear hF8 hnew8 hn8 ha8;refine af8 (.agg #[.int .i64 0,.string ⟨#[]⟩,.slice none 0 0,.int .i64 0,.int .i64 0]) (hR.h .spread _ _ _ HA.out.s hne) HX.out (fun w9 hp9=>by (go_wp2_with fail);exact⟨rfl,aq4 HT.out (HA.out.p.then hp9)⟩) ?_;intro hf;have HFX:=hJ hf;clear hf;clear zp0 yp0 zk0 yk0 lp lk lb;have cF: ∀(W:World) (a:Addr),W.cell? a=some (.slice sa l.length sc):=fun _ _=>HFX.out.elim;have fF: ∀(W:World) (a:Addr),W.frozen? a=false:=fun _ _=>HFX.out.elim)|(go_simp;replace HA:=hJ (HA.out.setk (.slice (some ⟨g9,0,none⟩) (l.length+1) cap9));refine af8 (.agg #[.int .i64 0,.string ⟨#[]⟩,.slice none 0 0,.int .i64 0,.int .i64 0]) (hR.h .spread _ _ _ HA.out.s hne) HX.out (fun w9 hp9=>by (go_wp2_with fail);exact⟨rfl,aq4 HT.out (HA.out.p.then hp9)⟩) ?_;intro hf;have HFX:=hJ hf;clear hf;clear zp0 yp0 zk0 yk0 lp lk lb;have cF: ∀(W:World) (a:Addr),W.cell? a=some (.slice sa l.length sc):=fun _ _=>HFX.out.elim;have fF: ∀(W:World) (a:Addr),W.frozen? a=false:=fun _ _=>HFX.out.elim)|((refine step_append_lies _ (by rfl) _ _ _ (by rfl) w.heap.size 27 i0 _ 5 64 (by kernel_rfl) hi hz0 hz1 hz2 (by rfl) (by decide) (.slice sa l.length sc) l.length (l.flatMap aa8) (by rfl) ((HA.out.k.own.alloc _)) ⟨w4.heap.size,0,none⟩ 1 1 (aa8 (Nd.zero,none,0)) (by rfl) (by rfl) (World.news_of_block (heap_alloc_new _ _)) (ad9 _) (by decide) (by unfold maxLen;omega) (by omega) (by have:=HA.out.bs;simp at this⊢;omega) (w4.heap.size+1) (by simp) ?_;intro g9 cap9 w9 hown9 hg9 hat9 hlt9;obtain⟨F9,hF9,hn9,ha9⟩:=HA.out.push (o:=(.cells #[.int .i64 0,.string ⟨#[]⟩,.slice none 0 0,.int .i64 0,.int .i64 0] 27)) hown9 ⟨hg9.os,hg9.tape,hg9.output,hg9.size,hg9.block⟩ (hat9.imp (fun e=>e.symm) (fun e=>congrArg some e));replace HFF:=hJ fun k h=>hF9 k (HFF.out k h);(try replace HIx:=hJ (hn9 _ _ HIx.out));have HL9:=hJ hlt9;clear zp0 yp0 zk0 yk0 lp lk lb;replace HA:=hJ ha9;clear hown9 hg9 hat9 hF9 hn9 ha9;obtain⟨zp0,yp0⟩:=HA.out.bp.fs;obtain⟨zk0,yk0⟩:=HA.out.bk.fs;have lp:=HA.out.bp.lt;have lk:=HA.out.bk.lt;have lb:=HA.out.bs;obtain⟨⟨fr0,fr1,fr2,fr3,fr4⟩,c0,c1,c2,c3,c4,lr9⟩:=KsO.last HA.out.k;have hg9b:=(aa5 HA.out.k.own (g:=g9) rfl).2;have e9k:gb≠g9:=(by omega);have e9l:g9≠gb:=(by omega);have e9p:gp≠g9:=(by omega);have e9q:g9≠gp:=(by omega))))
       all_goals exact HFX.out.elim
      case rest=>exact hcut.elim
theorem S.array {E:PE} {R:(x:Fn)→PM x.Out} (hR:Env E R) {F:Nat→Prop} {w:World} {p:Ps} (f:Nat) (h:St E F w p) (hne:aY9 E.s f R p≠ .out):
  Calls Tryz.prog 296 #[.pointer (some ⟨E.b,0,none⟩)] w (Ans E F X0 w (aY9 E.s f R p) fun n v w'=>IsP E F w' n v):=by
 obtain⟨T,hT⟩: ∃T,aY9 E.s f R p=T:=⟨_,rfl⟩
 rw [hT] at hne⊢
 unfold aY9 at hT
 have HT:=hJ hT
 have HN:=hJ hne
 have HA:=Sa.start0 (X:=X0) h
 clear h hne hT
 go_enter Tryz.func296,Tryz.ntmps296
 go_wp2_with fail
 replace HA:=HA.out.pP (g:=w.heap.size) rfl
 replace HA:=HA.out.pZ (g:=(w.heap.size+1)) (by simp)
 refine HA.out.stepV HT HN (fun _ h e=>P.take hR.ok h.s e) ?_ ?_
 ·intro _ _ _ H;go_wp2_with fail;exact⟨rfl,Ans.badh H⟩
 clear HT HA
 intro t q1 w1 HT HA
 obtain⟨zr,zpb,-⟩:=HA.out.fs
 have yr:=HA.out.fw 0 rfl
 go_wp2_with fail
 replace HA:=HA.out.p1 (g:=w1.heap.size) rfl (.slice none 0 0) 25
 refine HA.out.withG hR.ok 1 0 HT HN (fun _=>by kernel_rfl) (C.array1 hR f) (bc8 _ _) [2,0] ⟨⟨_,_,rfl,.inl rfl⟩,⟨_,_,rfl,.inl rfl⟩,trivial⟩ (by decide) (fun i hi=> .inr (by have:=HA.out.size;simp at this;omega)) ?_ ?_
 ·intro _ _ _ H;go_wp2_with fail;exact⟨rfl,Ans.badh H⟩
 clear zr zpb yr HT HA
 intro F9 ks q2 w2 h9 hs9 hp9 ha9 HT
 obtain⟨⟨vk,hbk,hks⟩,_⟩:=ha9
 obtain⟨akn,ckn,rfl,hk9⟩:=KsIn.asP hks
 have HA:=((h9.callc 0 rfl hs9 hp9 (c:= .c1 (.slice akn ks.length ckn) 25) hbk).node hk9).a
 replace HA:=hJ HA
 clear h9 hs9 hp9 hbk hks hk9
 dsimp only [ae4] at HA
 obtain⟨zkb,zr,zpb,-⟩:=HA.out.fs
 have yr:=HA.out.fw 1 rfl
 go_wp2_with fail
 refine HA.out.stepV HT HN (fun _ h e=>P.take hR.ok h.s e) ?_ ?_
 ·intro _ _ _ H;go_wp2_with fail;exact⟨rfl,Ans.badh H⟩
 clear zkb zr zpb yr HT HA
 intro _ q3 w3 HT HA
 obtain⟨zkb,zr,zpb,-⟩:=HA.out.fs
 have yr:=HA.out.fw 1 rfl
 replace HT:=ac9 HT
 go_wp2_with fail
 refine HA.out.nodeK 11 ⟨#[]⟩ t.from' 0 rfl HT ?_
 clear zkb zr zpb yr HT HA
 intro m am cm w4 _ HT HA
 obtain⟨zkb,zr,zpb,-⟩:=HA.out.fs
 have yr:=HA.out.fw 1 rfl
 go_wp2_with fail
 exact HA.out.fin_nd 1 0 rfl rfl rfl rfl rfl HT.out.symm
end
end Go.Proofs.YtnobjeelihkjmaaGreatDoor
