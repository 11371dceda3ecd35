/- Steps (Vn). Conditions: as stated. -/
import Derived.Test.YtcgbkjhoifhnnaaGreatDoorZe11
import Derived.Test.YtcgbkjhoifhnnaaGreatDoorZe15
import Derived.Deep.DrawnRows
set_option maxHeartbeats 4000000
set_option maxRecDepth 100000
namespace Go.Proofs.YtcgbkjhoifhnnaaGreatDoor
section
open Go.RowKit
attribute [local go_sem] ab4 ab5 ab6 ab7 ab8 ab9
attribute [local go_sem ↓] Go.wp_at_zero Go.wp_at_succ
theorem C.alone1 {E:PE} {R:(x:Fn)→PM x.Out} (hR:Env E R) (t:Tk) {pb tb nb:Nat} :
  CloS E (fun j=>j=nb) [(pb,false,.p E.b),(tb,false,.tk t),(nb,true,.nb)] (InB E nb) (R (.statement t false)) 123 #[.pointer (some ⟨pb,0,none⟩),.pointer (some ⟨tb,0,none⟩),.pointer (some ⟨nb,0,none⟩)]:=by
 intro F w p h hB hd hne
 obtain⟨T,hT⟩: ∃T,R (.statement t false) p=T:=⟨_,rfl⟩
 rw [hT] at hne⊢
 have HT:=hJ hT
 have HN:=hJ hne
 have HA:=Sa.start (X:=(fun j=>j=nb)) h [] _ (fun _ h=>by cases h) hB (by simp) hd
 clear h hne hT hB hd
 replace HT:=aa5 HT
 obtain⟨zpb,ztb,znb,-⟩:=HA.out.fs
 have ynb:=HA.out.fw 2 rfl
 go_enter Tryz.func123,Tryz.ntmps123
 go_wp2_with fail
 refine HA.out.stepN HT HN (fun _ h e=>hR.h (.statement t false) _ _ _ h.s e) ?_ ?_
 ·intro _ _ _ H;go_wp2_with fail;exact⟨rfl,Ans.badh H⟩
 clear zpb ztb znb ynb HT HA
 intro n an cn q1 w1 HT HA
 obtain⟨zpb,ztb,znb,-⟩:=HA.out.fs
 have ynb:=HA.out.fw 2 rfl
 go_wp2_with fail
 exact HA.out.fin_cl 2 0 rfl rfl rfl rfl HT.out.symm
theorem S.alone {E:PE} {R:(x:Fn)→PM x.Out} (hR:Env E R) {F:Nat→Prop} {w:World} {p:Ps} (h:St E F w p) (hne:aD1 E.s R p≠ .out):
  Calls Tryz.prog 69 #[.pointer (some ⟨E.b,0,none⟩)] w (Ans E F X0 w (aD1 E.s R p) fun n v w'=>IsP E F w' n v):=by
 obtain⟨T,hT⟩: ∃T,aD1 E.s R p=T:=⟨_,rfl⟩
 rw [hT] at hne⊢
 unfold aD1 at hT
 have HT:=hJ hT
 have HN:=hJ hne
 have HA:=Sa.start0 (X:=X0) h
 clear h hne hT
 go_enter Tryz.func69,Tryz.ntmps69
 go_wp2_with fail
 replace HA:=HA.out.pP (g:=w.heap.size) rfl
 replace HA:=HA.out.pZ (g:=(w.heap.size+1)) (by simp)
 refine HA.out.stepV HT HN (fun _ h e=>P.peek hR.ok 2 h.s e) ?_ ?_
 ·intro _ _ _ H;go_wp2_with fail;exact⟨rfl,Ans.badh H⟩
 clear HT HA
 intro t q1 w1 HT HA
 obtain⟨zr,zpb,-⟩:=HA.out.fs
 have yr:=HA.out.fw 0 rfl
 go_wp2_with fail
 replace HT:=aa5 HT
 replace HA:=HA.out.pT (g:=w1.heap.size) rfl t
 refine HA.out.deeper hR.ok t.from' HT HN (fun _=>by kernel_rfl) (C.alone1 hR t) (.tail _ (.tail _ (.head _))) [2,0,1] ⟨⟨_,_,rfl,.inl rfl⟩,⟨_,_,rfl,.inl rfl⟩,⟨_,_,rfl,.inr ⟨rfl,_,_,_,_,_,_,_,rfl⟩⟩,trivial⟩ (by decide) 1 rfl ?_ ?_
 ·intro _ _ _ H;go_wp2_with fail;exact⟨rfl,Ans.badh H⟩
 clear zr zpb yr HT HA
 intro n an cn q2 w2 HT HA
 dsimp only [ac8] at HA
 obtain⟨zt,zr,zpb,-⟩:=HA.out.fs
 have yr:=HA.out.fw 1 rfl
 go_wp2_with fail
 exact HA.out.fin_nd 1 0 rfl rfl rfl rfl rfl HT.out.symm
theorem S.head {E:PE} {R:(x:Fn)→PM x.Out} (hR:Env E R) {F:Nat→Prop} {w:World} {p:Ps} (h:St E F w p) (hne:aS1 E.s R p≠ .out):
  Calls Tryz.prog 68 #[.pointer (some ⟨E.b,0,none⟩)] w (Ans E F X0 w (aS1 E.s R p) fun n v w'=>IsP E F w' n v):=by
 obtain⟨T,hT⟩: ∃T,aS1 E.s R p=T:=⟨_,rfl⟩
 rw [hT] at hne⊢
 unfold aS1 at hT
 have HT:=hJ hT
 have HN:=hJ hne
 have HA:=Sa.start0 (X:=X0) h
 clear h hne hT
 go_enter Tryz.func68,Tryz.ntmps68
 go_wp2_with fail
 replace HA:=HA.out.pZ (g:=w.heap.size) rfl
 refine HA.out.stepV HT HN (fun _ h e=>P.want hR.ok ⟨#[40]⟩ h.s e) ?_ ?_
 ·intro _ _ _ H;go_wp2_with fail;exact⟨rfl,Ans.badh H⟩
 clear HT HA
 intro _ q1 w1 HT HA
 obtain⟨zr,-⟩:=HA.out.fs
 have yr:=HA.out.fw 0 rfl
 go_wp2_with fail
 refine HA.out.stepN HT HN (fun _ h e=>hR.h .inner _ _ _ h.s e) ?_ ?_
 ·intro _ _ _ H;go_wp2_with fail;exact⟨rfl,Ans.badh H⟩
 clear zr yr HT HA
 intro n an cn q2 w2 HT HA
 obtain⟨zr,-⟩:=HA.out.fs
 have yr:=HA.out.fw 0 rfl
 go_wp2_with fail
 replace HA:=HA.out.pN (g:=w2.heap.size) rfl n an cn
 refine HA.out.stepV HT HN (fun _ h e=>P.want hR.ok ⟨#[41]⟩ h.s e) ?_ ?_
 ·intro _ _ _ H;go_wp2_with fail;exact⟨rfl,Ans.badh H⟩
 clear zr yr HT HA
 intro _ q3 w3 HT HA
 obtain⟨zn,zr,-⟩:=HA.out.fs
 have yr:=HA.out.fw 1 rfl
 replace HT:=aa5 HT
 go_wp2_with fail
 exact HA.out.fin_nd 1 0 rfl rfl rfl rfl rfl HT.out.symm
theorem C.binding1 {E:PE} {R:(x:Fn)→PM x.Out} (hR:Env E R) (t:Tk) {tb pb nb:Nat} :
  CloS E (fun j=>j=nb) [(tb,false,.tk t),(pb,false,.p E.b),(nb,true,.nb)] (InB E nb) (if punctT t ⟨#[91]⟩=true∨punctT t ⟨#[123]⟩=true then outP else ae2 E.s E.m) 150 #[.pointer (some ⟨tb,0,none⟩),.pointer (some ⟨pb,0,none⟩),.pointer (some ⟨nb,0,none⟩)]:=by
 intro F w p h hB hd hne
 obtain⟨T,hT⟩: ∃T,(if punctT t ⟨#[91]⟩=true∨punctT t ⟨#[123]⟩=true then outP else ae2 E.s E.m) p=T:=⟨_,rfl⟩
 rw [hT] at hne⊢
 have HT:=hJ hT
 have HN:=hJ hne
 have HA:=Sa.start (X:=(fun j=>j=nb)) h [] _ (fun _ h=>by cases h) hB (by simp) hd
 clear h hne hT hB hd
 by_cases hx:punctT t ⟨#[91]⟩=true∨punctT t ⟨#[123]⟩=true
 ·rw [if_pos hx] at HT
  exact absurd HT.out.symm HN.out
 rw [if_neg hx] at HT
 have hu:punctT t ⟨#[91]⟩=false:=by simpa using fun h=>hx (.inl h)
 have hv:punctT t ⟨#[123]⟩=false:=by simpa using fun h=>hx (.inr h)
 clear hx
 replace HT:=aa5 HT
 obtain⟨ztb,zpb,znb,-⟩:=HA.out.fs
 have ynb:=HA.out.fw 2 rfl
 go_enter Tryz.func150,Tryz.ntmps150
 go_wp2_with fail
 refine HA.out.stepQ (fun _ h=>P.punct t ⟨#[91]⟩ _) ?_
 clear ztb zpb znb ynb HA
 intro w1 HA
 obtain⟨ztb,zpb,znb,-⟩:=HA.out.fs
 have ynb:=HA.out.fw 2 rfl
 rw [hu]
 clear hu
 go_wp2_with fail
 refine HA.out.stepQ (fun _ h=>P.punct t ⟨#[123]⟩ _) ?_
 clear ztb zpb znb ynb HA
 intro w2 HA
 obtain⟨ztb,zpb,znb,-⟩:=HA.out.fs
 have ynb:=HA.out.fw 2 rfl
 rw [hv]
 clear hv
 go_wp2_with fail
 refine HA.out.stepN HT HN (fun _ h e=>P.takeIdent hR.ok h.s e) ?_ ?_
 ·intro _ _ _ H;go_wp2_with fail;exact⟨rfl,Ans.badh H⟩
 clear ztb zpb znb ynb HT HA
 intro n an cn q3 w3 HT HA
 obtain⟨ztb,zpb,znb,-⟩:=HA.out.fs
 have ynb:=HA.out.fw 2 rfl
 go_wp2_with fail
 exact HA.out.fin_cl 2 0 rfl rfl rfl rfl HT.out.symm
theorem S.bindingX {E:PE} {R:(x:Fn)→PM x.Out} (hR:Env E R) {F:Nat→Prop} {w:World} {p:Ps} (h:St E F w p) (hne:aq5 E.s E.m p≠ .out):
  Calls Tryz.prog 112 #[.pointer (some ⟨E.b,0,none⟩)] w (Ans E F X0 w (aq5 E.s E.m p) fun n v w'=>IsP E F w' n v):=by
 obtain⟨T,hT⟩: ∃T,aq5 E.s E.m p=T:=⟨_,rfl⟩
 rw [hT] at hne⊢
 unfold aq5 at hT
 have HT:=hJ hT
 have HN:=hJ hne
 have HA:=Sa.start0 (X:=X0) h
 clear h hne hT
 go_enter Tryz.func112,Tryz.ntmps112
 go_wp2_with fail
 replace HA:=HA.out.pP (g:=w.heap.size) rfl
 replace HA:=HA.out.pZ (g:=(w.heap.size+1)) (by simp)
 refine HA.out.stepV HT HN (fun _ h e=>P.peek hR.ok 1 h.s e) ?_ ?_
 ·intro _ _ _ H;go_wp2_with fail;exact⟨rfl,Ans.badh H⟩
 clear HT HA
 intro t q1 w1 HT HA
 obtain⟨zr,zpb,-⟩:=HA.out.fs
 have yr:=HA.out.fw 0 rfl
 go_wp2_with fail
 replace HT:=aa5 HT
 replace HA:=HA.out.pT (g:=w1.heap.size) rfl t
 refine HA.out.deeper hR.ok t.from' HT HN (fun _=>by kernel_rfl) (C.binding1 hR t) (.tail _ (.tail _ (.head _))) [0,2,1] ⟨⟨_,_,rfl,.inl rfl⟩,⟨_,_,rfl,.inl rfl⟩,⟨_,_,rfl,.inr ⟨rfl,_,_,_,_,_,_,_,rfl⟩⟩,trivial⟩ (by decide) 1 rfl ?_ ?_
 ·intro _ _ _ H;go_wp2_with fail;exact⟨rfl,Ans.badh H⟩
 clear zr zpb yr HT HA
 intro n an cn q2 w2 HT HA
 dsimp only [ac8] at HA
 obtain⟨zt,zr,zpb,-⟩:=HA.out.fs
 have yr:=HA.out.fw 1 rfl
 go_wp2_with fail
 exact HA.out.fin_nd 1 0 rfl rfl rfl rfl rfl HT.out.symm
theorem S.declaredX {E:PE} {R:(x:Fn)→PM x.Out} (hR:Env E R) {F:Nat→Prop} {w:World} {p:Ps} (t:Tk) (h:St E F w p) (hne:ah7 E.s R t p≠ .out):
  Calls Tryz.prog 63 #[.pointer (some ⟨E.b,0,none⟩),.agg #[.int .i64 t.kind,.string t.text,.int .i64 t.from',.int .i64 t.till,.bool t.line],.pointer none] w (Ans E F X0 w (ah7 E.s R t p) fun n v w'=>IsP E F w' n v):=by
 obtain⟨T,hT⟩: ∃T,ah7 E.s R t p=T:=⟨_,rfl⟩
 rw [hT] at hne⊢
 unfold ah7 at hT
 have HT:=hJ hT
 have HN:=hJ hne
 have HA:=Sa.start0 (X:=X0) h
 clear h hne hT
 go_enter Tryz.func63,Tryz.ntmps63
 go_wp2_with fail
 replace HA:=HA.out.pT (g:=w.heap.size) rfl t
 replace HA:=HA.out.pZ (g:=(w.heap.size+1)) (by simp)
 go_loopw [2,7,8,9] (fun a b _ _ wr=> ∃q,a= .pointer none∧b= .slice none 0 0∧Hid (ah7 E.s R t q=T)∧Hid (Sa E F X0 w wr q [((w.heap.size+1),true,.z),(w.heap.size,true,.tk t)] [] none)) (fun _ _ _ _ _=>0)
 case atStart=>exact⟨_,rfl,rfl,HT,HA.out.pick [0,1] [] (by decide)⟩
 case round=>
  clear HT HA
  obtain⟨q,rfl,rfl,HT,HA⟩:=hrel
  unfold ah7 at HT
  obtain⟨zr,zt,-⟩:=HA.out.fs
  have yr:=HA.out.fw 0 rfl
  go_wp2_with fail
  replace HA:=HA.out.pZ (g:=wr.heap.size) rfl
  refine HA.out.stepN HT HN (fun _ h e=>hR.h .binding _ _ _ h.s e) ?_ ?_
  ·intro _ _ _ H;go_wp2_with fail;exact⟨rfl,Ans.badh H⟩
  clear zr zt yr HT HA
  intro id aid cid q1 w1 HT HA
  obtain⟨zib,zr,zt,-⟩:=HA.out.fs
  have yib:=HA.out.fw 0 rfl
  have yr:=HA.out.fw 1 rfl
  go_upto_region 6 with fail
  replace HA:=HA.out.setN 0 0 rfl rfl rfl
  clear zib zr zt yib yr
  obtain⟨w2,e8,HA⟩:=HA
  rw [e8]
  clear e8
  dsimp only [ac8] at HA
  obtain⟨zib,zr,zt,-⟩:=HA.out.fs
  have yib:=HA.out.fw 0 rfl
  have yr:=HA.out.fw 1 rfl
  go_wp2_with fail
  replace HA:=HA.out.pZ (g:=w2.heap.size) rfl
  refine HA.out.stepV HT HN (fun _ h e=>P.is hR.ok ⟨#[61]⟩ h.s e) ?_ ?_
  ·intro _ _ _ H;go_wp2_with fail;exact⟨rfl,Ans.badh H⟩
  clear zib zr zt yib yr HT HA
  intro b q3 w3 HT HA
  obtain⟨zvb,zib,zr,zt,-⟩:=HA.out.fs
  have yvb:=HA.out.fw 0 rfl
  have yib:=HA.out.fw 1 rfl
  have yr:=HA.out.fw 2 rfl
  cases b with
  |true=>
   replace HT:=hpos HT (by rfl)
   go_wp2_with fail
   refine HA.out.stepN HT HN (fun _ h e=>hR.h .assign _ _ _ h.s e) ?_ ?_
   ·intro _ _ _ H;go_wp2_with fail;exact⟨rfl,Ans.badh H⟩
   clear zvb zib zr zt yvb yib yr HT HA
   intro v av cv q4 w4 HT HA
   obtain⟨zvb,zib,zr,zt,-⟩:=HA.out.fs
   have yvb:=HA.out.fw 0 rfl
   have yib:=HA.out.fw 1 rfl
   have yr:=HA.out.fw 2 rfl
   go_upto_region 12 with fail
   replace HA:=HA.out.setN 0 0 rfl rfl rfl
   clear zvb zib zr zt yvb yib yr
   obtain⟨w5,e8,HA⟩:=HA
   rw [e8]
   clear e8
   dsimp only [ac8] at HA
   obtain⟨zvb,zib,zr,zt,-⟩:=HA.out.fs
   have yvb:=HA.out.fw 0 rfl
   have yib:=HA.out.fw 1 rfl
   have yr:=HA.out.fw 2 rfl
   go_wp2_with fail
   refine HA.out.node 61 ⟨#[]⟩ id.from' [(id,aid,cid),(v,av,cv)] (by simp) rfl rfl rfl rfl HT ?_
   clear zvb zib zr zt yvb yib yr HT HA
   intro k ak ck w6 _ HT HA
   obtain⟨zvb,zib,zr,zt,-⟩:=HA.out.fs
   have yvb:=HA.out.fw 0 rfl
   have yib:=HA.out.fw 1 rfl
   have yr:=HA.out.fw 2 rfl
   replace HA:=HA.out.row0
   go_wp2_with (at_builtin;refine at5 (by rfl) _ _ _ (by rfl) (by kernel_rfl) ak3 HA.out 0 rfl (by rfl) (g:=w6.heap.size) rfl (by rfl) rfl (by simp) ?_;clear zvb zib zr zt yvb yib yr HA;intro rr rc w7 HA)
   go_wp2_with fail
   refine HA.out.stepV HT HN (fun _ h e=>P.is hR.ok ⟨#[44]⟩ h.s e) ?_ ?_
   ·intro _ _ _ H;go_wp2_with fail;exact⟨rfl,Ans.badh H⟩
   clear HT HA
   intro c q8 w8 HT HA
   obtain⟨zvb,zib,zr,zt,-⟩:=HA.out.fs
   have yvb:=HA.out.fw 0 rfl
   have yib:=HA.out.fw 1 rfl
   have yr:=HA.out.fw 2 rfl
   cases c with
   |true=>
    replace HT:=hpos HT (by rfl)
    exact absurd HT.out.symm HN.out
   |false=>
    replace HT:=hneg HT (by decide)
    replace HT:=aa5 HT
    go_wp2_with fail
    refine HA.out.nodeR 60 t.text t.from' rfl HT ?_
    clear zvb zib zr zt yvb yib yr HT HA
    intro m am cm w9 _ HT HA
    obtain⟨zvb,zib,zr,zt,-⟩:=HA.out.fs
    have yvb:=HA.out.fw 0 rfl
    have yib:=HA.out.fw 1 rfl
    have yr:=HA.out.fw 2 rfl
    go_wp2_with fail
    exact HA.out.fin_nd 2 0 rfl rfl rfl rfl rfl HT.out.symm
  |false=>
   replace HT:=hneg HT (by decide)
   by_cases hx:t.text=⟨#[99,111,110,115,116]⟩∨id.kind≠1
   ·rw [if_pos hx] at HT
    exact absurd HT.out.symm HN.out
   rw [if_neg hx] at HT
   have hu:(t.text.toList== [99,111,110,115,116])=false:=xf (fun h=>hx (.inl h))
   have hk1:id.kind=1:=Decidable.byContradiction fun h=>hx (.inr h)
   have hk1w:=nf hk1
   have HK1:=hJ hk1
   clear hx hk1
   go_upto_region 12 with fail
   clear zvb zib zr zt yvb yib yr
   generalize w3=w4 at*
   obtain⟨zvb,zib,zr,zt,-⟩:=HA.out.fs
   have yvb:=HA.out.fw 0 rfl
   have yib:=HA.out.fw 1 rfl
   have yr:=HA.out.fw 2 rfl
   go_wp2_with fail
   refine HA.out.node 61 ⟨#[]⟩ id.from' [(id,aid,cid),(Nd.zero,none,0)] (by simp) rfl rfl rfl rfl HT ?_
   clear zvb zib zr zt yvb yib yr HT HA
   intro k ak ck w5 _ HT HA
   obtain⟨zvb,zib,zr,zt,-⟩:=HA.out.fs
   have yvb:=HA.out.fw 0 rfl
   have yib:=HA.out.fw 1 rfl
   have yr:=HA.out.fw 2 rfl
   replace HA:=HA.out.row0
   go_wp2_with (at_builtin;refine at5 (by rfl) _ _ _ (by rfl) (by kernel_rfl) ak3 HA.out 0 rfl (by rfl) (g:=w5.heap.size) rfl (by rfl) rfl (by simp) ?_;clear zvb zib zr zt yvb yib yr HA;intro rr rc w6 HA)
   go_wp2_with fail
   refine HA.out.stepV HT HN (fun _ h e=>P.is hR.ok ⟨#[44]⟩ h.s e) ?_ ?_
   ·intro _ _ _ H;go_wp2_with fail;exact⟨rfl,Ans.badh H⟩
   clear HT HA
   intro c q7 w7 HT HA
   obtain⟨zvb,zib,zr,zt,-⟩:=HA.out.fs
   have yvb:=HA.out.fw 0 rfl
   have yib:=HA.out.fw 1 rfl
   have yr:=HA.out.fw 2 rfl
   cases c with
   |true=>
    replace HT:=hpos HT (by rfl)
    exact absurd HT.out.symm HN.out
   |false=>
    replace HT:=hneg HT (by decide)
    replace HT:=aa5 HT
    go_wp2_with fail
    refine HA.out.nodeR 60 t.text t.from' rfl HT ?_
    clear zvb zib zr zt yvb yib yr HT HA
    intro m am cm w8 _ HT HA
    obtain⟨zvb,zib,zr,zt,-⟩:=HA.out.fs
    have yvb:=HA.out.fw 0 rfl
    have yib:=HA.out.fw 1 rfl
    have yr:=HA.out.fw 2 rfl
    go_wp2_with fail
    exact HA.out.fin_nd 2 0 rfl rfl rfl rfl rfl HT.out.symm
theorem S.branchX {E:PE} {R:(x:Fn)→PM x.Out} (hR:Env E R) {F:Nat→Prop} {w:World} {p:Ps} (t:Tk) (h:St E F w p) (hne:av4 E.s R t p≠ .out):
  Calls Tryz.prog 66 #[.pointer (some ⟨E.b,0,none⟩),.agg #[.int .i64 t.kind,.string t.text,.int .i64 t.from',.int .i64 t.till,.bool t.line]] w (Ans E F X0 w (av4 E.s R t p) fun n v w'=>IsP E F w' n v):=by
 obtain⟨T,hT⟩: ∃T,av4 E.s R t p=T:=⟨_,rfl⟩
 rw [hT] at hne⊢
 unfold av4 at hT
 have HT:=hJ hT
 have HN:=hJ hne
 have HA:=Sa.start0 (X:=X0) h
 clear h hne hT
 go_enter Tryz.func66,Tryz.ntmps66
 go_wp2_with fail
 replace HA:=HA.out.pT (g:=w.heap.size) rfl t
 replace HA:=HA.out.pZ (g:=(w.heap.size+1)) (by simp)
 refine HA.out.stepV HT HN (fun _ h e=>P.take hR.ok h.s e) ?_ ?_
 ·intro _ _ _ H;go_wp2_with fail;exact⟨rfl,Ans.badh H⟩
 clear HT HA
 intro _ q1 w1 HT HA
 obtain⟨zr,zt,-⟩:=HA.out.fs
 have yr:=HA.out.fw 0 rfl
 go_wp2_with fail
 refine HA.out.stepN HT HN (fun _ h e=>hR.h .head _ _ _ h.s e) ?_ ?_
 ·intro _ _ _ H;go_wp2_with fail;exact⟨rfl,Ans.badh H⟩
 clear zr zt yr HT HA
 intro test atest ctest q2 w2 HT HA
 obtain⟨zr,zt,-⟩:=HA.out.fs
 have yr:=HA.out.fw 0 rfl
 go_wp2_with fail
 replace HA:=HA.out.pN (g:=w2.heap.size) rfl test atest ctest
 refine HA.out.stepN HT HN (fun _ h e=>hR.h .alone _ _ _ h.s e) ?_ ?_
 ·intro _ _ _ H;go_wp2_with fail;exact⟨rfl,Ans.badh H⟩
 clear zr zt yr HT HA
 intro th ath cth q3 w3 HT HA
 obtain⟨ztest,zr,zt,-⟩:=HA.out.fs
 have yr:=HA.out.fw 1 rfl
 go_wp2_with fail
 replace HA:=HA.out.pN (g:=w3.heap.size) rfl th ath cth
 replace HA:=HA.out.pZ (g:=(w3.heap.size+1)) (by simp)
 refine HA.out.stepV HT HN (fun _ h e=>P.peek hR.ok 2 h.s e) ?_ ?_
 ·intro _ _ _ H;go_wp2_with fail;exact⟨rfl,Ans.badh H⟩
 clear ztest zr zt yr HT HA
 intro u q4 w4 HT HA
 obtain⟨zot,zth,ztest,zr,zt,-⟩:=HA.out.fs
 have yr:=HA.out.fw 3 rfl
 go_wp2_with fail
 refine HA.out.stepQ (fun _ h=>P.name u ⟨#[101,108,115,101]⟩ _) ?_
 clear zot zth ztest zr zt yr HA
 intro w5 HA
 obtain⟨zot,zth,ztest,zr,zt,-⟩:=HA.out.fs
 have yr:=HA.out.fw 3 rfl
 cases hc:nameT u ⟨#[101,108,115,101]⟩ with
 |true=>
  replace HT:=hpos HT (by rw [hc])
  exact absurd HT.out.symm HN.out
 |false=>
  replace HT:=hneg HT (by rw [hc];decide)
  go_wp2_with fail
  refine HA.out.node 62 ⟨#[]⟩ t.from' [(test,atest,ctest),(th,ath,cth),(Nd.zero,none,0)] (by simp) rfl rfl rfl rfl HT ?_
  clear zot zth ztest zr zt yr HT HA
  intro m am cm w6 _ HT HA
  obtain⟨zot,zth,ztest,zr,zt,-⟩:=HA.out.fs
  have yr:=HA.out.fw 3 rfl
  go_wp2_with fail
  exact HA.out.fin_nd 3 0 rfl rfl rfl rfl rfl HT.out.symm
theorem S.clsX {E:PE} {R:(x:Fn)→PM x.Out} (hR:Env E R) {F:Nat→Prop} {w:World} {p:Ps} (must:Bool) (h:St E F w p) (hne:aD6 E.s E.m must p≠ .out):
  Calls Tryz.prog 113 #[.pointer (some ⟨E.b,0,none⟩),.bool must] w (Ans E F X0 w (aD6 E.s E.m must p) fun n v w'=>IsP E F w' n v):=by
 obtain⟨T,hT⟩: ∃T,aD6 E.s E.m must p=T:=⟨_,rfl⟩
 rw [hT] at hne⊢
 unfold aD6 at hT
 have HT:=hJ hT
 have HN:=hJ hne
 have HA:=Sa.start0 (X:=X0) h
 clear h hne hT
 cases must with
 |false=>
  replace HT:=hpos HT (by rfl)
  exact absurd HT.out.symm HN.out
 |true=>
  replace HT:=hneg HT (by decide)
  go_enter Tryz.func113,Tryz.ntmps113
  go_upto_region 1 with fail
  replace HA:=HA.out.pP (g:=w.heap.size) rfl
  replace HA:=HA.out.pZ (g:=(w.heap.size+1)) (by simp)
  generalize ((w.alloc (.cells #[.pointer (some ⟨E.b,0,none⟩)] 52)).alloc (.cells #[.int .i64 0,.string ⟨#[]⟩,.slice none 0 0,.int .i64 0,.int .i64 0] 26))=w1 at*
  obtain⟨zr,zpb,-⟩:=HA.out.fs
  have yr:=HA.out.fw 0 rfl
  replace HT:=hget HT
  have cEfrom:=HA.out.c_from
  have lE:=HA.out.lt
  go_wp2_with fail
  refine HA.out.stepV HT HN (fun _ h e=>P.must hR.ok ⟨#[99,108,97,115,115]⟩ h.s e) ?_ ?_
  ·intro _ _ _ H;go_wp2_with fail;exact⟨rfl,Ans.badh H⟩
  clear zr zpb yr cEfrom lE HT HA
  intro _ q2 w2 HT HA
  obtain⟨zr,zpb,-⟩:=HA.out.fs
  have yr:=HA.out.fw 0 rfl
  go_wp2_with fail
  replace HA:=HA.out.pZ (g:=w2.heap.size) rfl
  replace HA:=HA.out.pZ (g:=(w2.heap.size+1)) (by simp)
  refine HA.out.stepV HT HN (fun _ h e=>P.peek hR.ok 1 h.s e) ?_ ?_
  ·intro _ _ _ H;go_wp2_with fail;exact⟨rfl,Ans.badh H⟩
  clear zr zpb yr HT HA
  intro tt q3 w3 HT HA
  obtain⟨zsb,zib,zr,zpb,-⟩:=HA.out.fs
  have yib:=HA.out.fw 1 rfl
  have yr:=HA.out.fw 2 rfl
  go_wp2_with fail
  replace HA:=HA.out.pT (g:=w3.heap.size) rfl tt
  refine HA.out.stepN HT HN (fun _ h e=>P.takeIdent hR.ok h.s e) ?_ ?_
  ·intro _ _ _ H;go_wp2_with fail;exact⟨rfl,Ans.badh H⟩
  clear zsb zib zr zpb yib yr HT HA
  intro id aid cid q4 w4 HT HA
  obtain⟨ztt,zsb,zib,zr,zpb,-⟩:=HA.out.fs
  have yib:=HA.out.fw 2 rfl
  have yr:=HA.out.fw 3 rfl
  go_upto_region 7 with fail
  replace HA:=HA.out.setN 2 0 rfl rfl rfl
  clear ztt zsb zib zr zpb yib yr
  obtain⟨w5,e8,HA⟩:=HA
  rw [e8]
  clear e8
  dsimp only [ac8] at HA
  obtain⟨ztt,zsb,zib,zr,zpb,-⟩:=HA.out.fs
  have yib:=HA.out.fw 2 rfl
  have yr:=HA.out.fw 3 rfl
  go_wp2_with fail
  refine HA.out.stepV HT HN (fun _ h e=>P.word hR.ok ⟨#[101,120,116,101,110,100,115]⟩ h.s e) ?_ ?_
  ·intro _ _ _ H;go_wp2_with fail;exact⟨rfl,Ans.badh H⟩
  clear ztt zsb zib zr zpb yib yr HT HA
  intro b q6 w6 HT HA
  obtain⟨ztt,zsb,zib,zr,zpb,-⟩:=HA.out.fs
  have yib:=HA.out.fw 2 rfl
  have yr:=HA.out.fw 3 rfl
  cases b with
  |true=>
   replace HT:=hpos HT (by rfl)
   exact absurd HT.out.symm HN.out
  |false=>
   replace HT:=hneg HT (by decide)
   go_wp2_with fail
   refine HA.out.stepV HT HN (fun _ h e=>P.want hR.ok ⟨#[123]⟩ h.s e) ?_ ?_
   ·intro _ _ _ H;go_wp2_with fail;exact⟨rfl,Ans.badh H⟩
   clear ztt zsb zib zr zpb yib yr HT HA
   intro o q7 w7 HT HA
   obtain⟨ztt,zsb,zib,zr,zpb,-⟩:=HA.out.fs
   have yib:=HA.out.fw 2 rfl
   have yr:=HA.out.fw 3 rfl
   go_wp2_with fail
   clear ztt zsb zib zr zpb yib yr
   go_loopw [10] (fun a wr=> ∃q,a= .slice none 0 0∧Hid ((isP E.s ⟨#[125]⟩>>=fun c=>if c then (do
      let body←ac7 25 ⟨#[]⟩ o.from' []
      ac7 23 ⟨#[]⟩ p.tok.from' [id,.zero,body]) else outP:PM Nd) q=T)∧Hid (Sa E F X0 w wr q [(w.heap.size,true,.p E.b),((w.heap.size+1),true,.z),(w2.heap.size,true,.nd id aid cid),((w2.heap.size+1),true,.z)] [(id,aid,cid)] none)) (fun _ _=>0)
   case atStart=>exact⟨_,rfl,HT,HA.out.pick [4,3,2,1] [0] (by decide)⟩
   case round=>
    clear HT HA
    obtain⟨q,rfl,HT,HA⟩:=hrel
    obtain⟨zpb,zr,zib,zsb,-⟩:=HA.out.fs
    have yr:=HA.out.fw 1 rfl
    have yib:=HA.out.fw 2 rfl
    go_wp2_with fail
    refine HA.out.stepV HT HN (fun _ h e=>P.is hR.ok ⟨#[125]⟩ h.s e) ?_ ?_
    ·intro _ _ _ H;go_wp2_with fail;exact⟨rfl,Ans.badh H⟩
    clear zpb zr zib zsb yr yib HT HA
    intro c q8 w8 HT HA
    obtain⟨zpb,zr,zib,zsb,-⟩:=HA.out.fs
    have yr:=HA.out.fw 1 rfl
    have yib:=HA.out.fw 2 rfl
    cases c with
    |true=>
     replace HT:=hpos HT (by rfl)
     go_wp2_with fail
     refine HA.out.node0 25 ⟨#[]⟩ o.from' HT ?_
     clear zpb zr zib zsb yr yib HT HA
     intro bd abd cbd w9 _ HT HA
     obtain⟨zpb,zr,zib,zsb,-⟩:=HA.out.fs
     have yr:=HA.out.fw 1 rfl
     have yib:=HA.out.fw 2 rfl
     replace HT:=aa5 HT
     go_wp2_with fail
     replace HA:=HA.out.pN (g:=w9.heap.size) rfl bd abd cbd
     refine HA.out.node 23 ⟨#[]⟩ p.tok.from' [(id,aid,cid),(Nd.zero,none,0),(bd,abd,cbd)] (by simp) rfl (by simp) rfl rfl HT ?_
     clear zpb zr zib zsb yr yib HT HA
     intro m am cm w10 _ HT HA
     obtain⟨zbd,zpb,zr,zib,zsb,-⟩:=HA.out.fs
     have yr:=HA.out.fw 2 rfl
     have yib:=HA.out.fw 3 rfl
     go_wp2_with fail
     exact HA.out.fin_nd 2 0 rfl rfl rfl rfl rfl HT.out.symm
    |false=>
     replace HT:=hneg HT (by decide)
     exact absurd HT.out.symm HN.out
theorem S.declarationX {E:PE} {R:(x:Fn)→PM x.Out} (hR:Env E R) {F:Nat→Prop} {w:World} {p:Ps} (must:Bool) (h:St E F w p) (hne:af7 R must p≠ .out):
  Calls Tryz.prog 65 #[.pointer (some ⟨E.b,0,none⟩),.bool must] w (Ans E F X0 w (af7 R must p) fun n v w'=>IsP E F w' n v):=by
 obtain⟨T,hT⟩: ∃T,af7 R must p=T:=⟨_,rfl⟩
 rw [hT] at hne⊢
 unfold af7 at hT
 have HT:=hJ hT
 have HN:=hJ hne
 have HA:=Sa.start0 (X:=X0) h
 clear h hne hT
 go_enter Tryz.func65,Tryz.ntmps65
 go_upto_region 1 with fail
 replace HA:=HA.out.pZ (g:=w.heap.size) rfl
 generalize (w.alloc (.cells #[.int .i64 0,.string ⟨#[]⟩,.slice none 0 0,.int .i64 0,.int .i64 0] 26))=w1 at*
 obtain⟨zr,-⟩:=HA.out.fs
 have yr:=HA.out.fw 0 rfl
 replace HT:=hget HT
 have cEkind:=HA.out.c_kind
 have cEtext:=HA.out.c_text
 have cEfrom:=HA.out.c_from
 have cEtill:=HA.out.c_till
 have cEline:=HA.out.c_line
 have lE:=HA.out.lt
 go_wp2_with fail
 refine HA.out.stepQ (fun _ h=>P.name p.tok ⟨#[99,108,97,115,115]⟩ _) ?_
 clear zr yr cEkind cEtext cEfrom cEtill cEline lE HA
 intro w2 HA
 obtain⟨zr,-⟩:=HA.out.fs
 have yr:=HA.out.fw 0 rfl
 cases hc:nameT p.tok ⟨#[99,108,97,115,115]⟩ with
 |true=>
  replace HT:=hpos HT (by exact hc)
  go_wp2_with fail
  refine HA.out.stepN HT HN (fun _ h e=>hR.h (.cls must) _ _ _ h.s e) ?_ ?_
  ·intro _ _ _ H;go_wp2_with fail;exact⟨rfl,Ans.badh H⟩
  clear zr yr HT HA
  intro n an cn q3 w3 HT HA
  obtain⟨zr,-⟩:=HA.out.fs
  have yr:=HA.out.fw 0 rfl
  go_wp2_with fail
  replace HA:=HA.out.pN (g:=w3.heap.size) rfl n an cn
  refine HA.out.node 24 ⟨#[]⟩ p.tok.from' [(n,an,cn)] (by simp) rfl (by simp) rfl rfl HT ?_
  clear zr yr HT HA
  intro k ak ck w4 _ HT HA
  obtain⟨zn,zr,-⟩:=HA.out.fs
  have yr:=HA.out.fw 1 rfl
  go_wp2_with fail
  exact HA.out.fin_nd 1 0 rfl rfl rfl rfl rfl HT.out.symm
 |false=>
  replace HT:=hneg HT (by rw [hc];decide)
  go_wp2_with fail
  refine HA.out.stepN HT HN (fun _ h e=>hR.h (.funcs must) _ _ _ h.s e) ?_ ?_
  ·intro _ _ _ H;go_wp2_with fail;exact⟨rfl,Ans.badh H⟩
  clear zr yr HT HA
  intro n an cn q3 w3 HT HA
  obtain⟨zr,-⟩:=HA.out.fs
  have yr:=HA.out.fw 0 rfl
  go_wp2_with fail
  replace HA:=HA.out.pN (g:=w3.heap.size) rfl n an cn
  refine HA.out.node 20 ⟨#[]⟩ p.tok.from' [(n,an,cn)] (by simp) rfl (by simp) rfl rfl HT ?_
  clear zr yr HT HA
  intro k ak ck w4 _ HT HA
  obtain⟨zn,zr,-⟩:=HA.out.fs
  have yr:=HA.out.fw 1 rfl
  go_wp2_with fail
  exact HA.out.fin_nd 1 0 rfl rfl rfl rfl rfl HT.out.symm
end
end Go.Proofs.YtcgbkjhoifhnnaaGreatDoor
