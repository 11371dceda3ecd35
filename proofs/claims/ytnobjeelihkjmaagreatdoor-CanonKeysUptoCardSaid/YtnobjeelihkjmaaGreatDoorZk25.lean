/- Steps (Q4 Q5 Q6 Q7 Q8). Conditions: as stated. -/
import Derived.Test.YtnobjeelihkjmaaGreatDoorZk18
import Derived.Test.YtnobjeelihkjmaaGreatDoorZk16
set_option maxHeartbeats 8000000
set_option maxRecDepth 100000
namespace Go.Proofs.YtnobjeelihkjmaaGreatDoor
section
open Go.RowKit
attribute [local go_sem] ab3 ab4 ab5 ab6 ab7 ab8
attribute [local go_sem ↓] Go.wp_at_zero Go.wp_at_succ
theorem aN6:bh8 214 1:=by
 intro t W
 refine⟨by kernel_rfl,?_⟩
 have hB:=(Below.alloc (Below.refl _ W) (Nat.le_refl _) (.cells #[.int .i64 t.kind,.string t.text,.int .i64 t.from',.int .i64 t.till,.bool t.line] 49))
 go_enter Tryz.func214,Tryz.ntmps214
 go_wp2_with fail
 refine(P.punct t ⟨#[125]⟩ _).mono ?_
 rintro e w2 ⟨rfl,hb⟩
 have HB:=hJ (hB.trans (hb.mono hB.size))
 clear hb
 go_wp2_with fail
 go_ret
 exact⟨by rw [endB,if_neg (by decide),if_pos rfl];rfl,HB.out⟩
theorem C.function1 {E:PE} {R:(x:Fn)→PM x.Out} (hR:Env E R) {pb nb:Nat} :
  CloS E (fun j=>j=nb) [(pb,false,.p E.b),(nb,true,.nb)] (InB E nb) (do
  let _←ac8 E.s 2
  let o←ap6 E.s ⟨#[123]⟩
  let kids←R (.statements true false 1)
  let _←ad7
  ac7 58 ⟨#[]⟩ o.from' kids) 213 #[.pointer (some ⟨pb,0,none⟩),.pointer (some ⟨nb,0,none⟩)]:=by
 intro F w p h hB hd hne
 obtain⟨T,hT⟩: ∃T,(do
   let _←ac8 E.s 2
   let o←ap6 E.s ⟨#[123]⟩
   let kids←R (.statements true false 1)
   let _←ad7
   ac7 58 ⟨#[]⟩ o.from' kids) p=T:=⟨_,rfl⟩
 rw [hT] at hne⊢
 have HT:=hJ hT
 have HN:=hJ hne
 have HA:=Sa.start (X:=(fun j=>j=nb)) h [] _ (fun _ h=>by cases h) hB (by simp) hd
 clear h hne hT hB hd
 obtain⟨zpb,znb,-⟩:=HA.out.fs
 have ynb:=HA.out.fw 1 rfl
 go_enter Tryz.func213,Tryz.ntmps213
 go_wp2_with fail
 refine HA.out.stepV HT HN (fun _ h e=>P.peek hR.ok 2 h.s e) ?_ ?_
 ·intro _ _ _ H;go_wp2_with fail;exact⟨rfl,Ans.badh H⟩
 clear zpb znb ynb HT HA
 intro _ q1 w1 HT HA
 obtain⟨zpb,znb,-⟩:=HA.out.fs
 have ynb:=HA.out.fw 1 rfl
 go_wp2_with fail
 refine HA.out.stepV HT HN (fun _ h e=>P.want hR.ok ⟨#[123]⟩ h.s e) ?_ ?_
 ·intro _ _ _ H;go_wp2_with fail;exact⟨rfl,Ans.badh H⟩
 clear zpb znb ynb HT HA
 intro o q2 w2 HT HA
 obtain⟨zpb,znb,-⟩:=HA.out.fs
 have ynb:=HA.out.fw 1 rfl
 go_wp2_with fail
 refine HA.out.stepK HT HN (fun _ h e=>hR.h (.statements true false 1) _ _ _ _ aN6 h.s e) ?_ ?_
 ·intro _ _ _ H;go_wp2_with fail;exact⟨rfl,Ans.badh H⟩
 clear zpb znb ynb HT HA
 intro ks akn ckn q3 w3 HT HA
 obtain⟨zpb,znb,-⟩:=HA.out.fs
 have ynb:=HA.out.fw 1 rfl
 go_wp2_with fail
 refine HA.out.stepV HT HN (fun _ h e=>P.take hR.ok h.s e) ?_ ?_
 ·intro _ _ _ H;go_wp2_with fail;exact⟨rfl,Ans.badh H⟩
 clear zpb znb ynb HT HA
 intro _ q4 w4 HT HA
 obtain⟨zpb,znb,-⟩:=HA.out.fs
 have ynb:=HA.out.fw 1 rfl
 replace HT:=ac9 HT
 go_wp2_with fail
 refine HA.out.nodeK 58 ⟨#[]⟩ o.from' 0 rfl HT ?_
 clear zpb znb ynb HT HA
 intro m am cm w5 _ HT HA
 obtain⟨zpb,znb,-⟩:=HA.out.fs
 have ynb:=HA.out.fw 1 rfl
 go_wp2_with fail
 exact HA.out.fin_cl 1 0 rfl rfl rfl rfl HT.out.symm
theorem S.function {E:PE} {R:(x:Fn)→PM x.Out} (hR:Env E R) {F:Nat→Prop} {w:World} {p:Ps} (h:St E F w p) (hne:ar0 E.s R p≠ .out):
  Calls Tryz.prog 153 #[.pointer (some ⟨E.b,0,none⟩)] w (Ans E F X0 w (ar0 E.s R p) fun n v w'=>IsP E F w' n v):=by
 obtain⟨T,hT⟩: ∃T,ar0 E.s R p=T:=⟨_,rfl⟩
 rw [hT] at hne⊢
 unfold ar0 at hT
 have HT:=hJ hT
 have HN:=hJ hne
 have HA:=Sa.start0 (X:=X0) h
 clear h hne hT
 go_enter Tryz.func153,Tryz.ntmps153
 go_wp2_with fail
 replace HT:=ac9 HT
 replace HA:=HA.out.pP (g:=w.heap.size) rfl
 replace HA:=HA.out.pZ (g:=(w.heap.size+1)) (by simp)
 refine HA.out.with hR.ok 1 0 HT HN (fun _=>by kernel_rfl) (C.function1 hR) (.tail _ (.head _)) [1,0] ⟨⟨_,_,rfl,.inl rfl⟩,⟨_,_,rfl,.inr ⟨rfl,_,_,_,_,_,_,_,rfl⟩⟩,trivial⟩ (by decide) 0 rfl ?_ ?_
 ·intro _ _ _ H;go_wp2_with fail;exact⟨rfl,Ans.badh H⟩
 clear HT HA
 intro n an cn q1 w1 HT HA
 dsimp only [ae4] at HA
 obtain⟨zr,zpb,-⟩:=HA.out.fs
 have yr:=HA.out.fw 0 rfl
 go_wp2_with fail
 exact HA.out.fin_nd 0 0 rfl rfl rfl rfl rfl HT.out.symm
end
section
open Go.RowKit
attribute [local go_sem] ab3 ab4 ab5 ab6 ab7 ab8
attribute [local go_sem ↓] Go.wp_at_zero Go.wp_at_succ
theorem P.list0 {E:PE} (hE:E.Ok) {F:Nat→Prop} {w:World} {p:Ps} (closing:ByteArray) (goal:Int) (f:Nat) (k:FuncId) (caps:Array Value) (hk: ∀W,(callFunc k caps).run Tryz.prog W= .ok (.enter k caps) W) (h:St E F w p) (hne:ar3 E.s closing goal (fun _:Unit=>outP) f () false p≠ .out) (hg:goal=1∨goal=2:=by decide):
  Calls Tryz.prog 234 #[.pointer (some ⟨E.b,0,none⟩),.string closing,.int .i64 goal,.func (Fn.func k) #[] caps] w (Ans E F X0 w (ar3 E.s closing goal (fun _:Unit=>outP) f () false p) fun r v _=>v= .bool r.2):=by
 have hl:=P.list hE closing goal f () hk (A:=fun _ _ _=>True) (X:=X0) (w:=w) (F:=F) (one:=fun _:Unit=>(outP:PM Unit)) (fun _ _ _ _ _ _ _ _ h=>absurd rfl h) (fun _ _ _ _ _ _ _ _=>trivial) trivial h hne hg
 generalize ar3 E.s closing goal (fun _:Unit=>(outP:PM Unit)) f () false p=T at hl⊢
 refine hl.mono fun e w' ha=> ?_
 cases T with
 |out=>trivial
 |bad c i=>exact ha
 |ok r q=>
  obtain⟨F2,hF,he,_,hs,hp⟩:=ha
  exact⟨_,he,rfl,hs.weak hF,hp⟩
theorem S.formals {E:PE} {R:(x:Fn)→PM x.Out} (hR:Env E R) {F:Nat→Prop} {w:World} {p:Ps} (f:Nat) (of:ByteArray) (h:St E F w p) (hne:av7 E.s f of p≠ .out):
  Calls Tryz.prog 271 #[.pointer (some ⟨E.b,0,none⟩),.string of] w (Ans E F X0 w (av7 E.s f of p) fun n v w'=>IsP E F w' n v):=by
 obtain⟨T,hT⟩: ∃T,av7 E.s f of p=T:=⟨_,rfl⟩
 rw [hT] at hne⊢
 unfold av7 at hT
 by_cases ho:of≠⟨#[]⟩
 ·rw [if_pos ho] at hT
  exact absurd hT.symm hne
 rw [if_neg ho] at hT
 have ho2:of=⟨#[]⟩:=Decidable.byContradiction ho
 clear ho
 subst ho2
 have HT:=hJ hT
 have HN:=hJ hne
 have HA:=Sa.start0 (X:=X0) h
 clear h hne hT
 go_enter Tryz.func271,Tryz.ntmps271
 go_wp2_with fail
 replace HA:=HA.out.pP (g:=w.heap.size) rfl
 replace HA:=HA.out.p1 (g:=(w.heap.size+1)) (by simp) (.string ⟨#[]⟩) 9
 replace HA:=HA.out.pZ (g:=(w.heap.size+2)) (by simp)
 refine HA.out.stepV HT HN (fun _ h e=>P.want hR.ok ⟨#[40]⟩ h.s e) ?_ ?_
 ·intro _ _ _ H;go_wp2_with fail;exact⟨rfl,Ans.badh H⟩
 clear HT HA
 intro o q1 w1 HT HA
 obtain⟨zr,zob,zpb,-⟩:=HA.out.fs
 have yr:=HA.out.fw 0 rfl
 go_wp2_with fail
 replace HA:=HA.out.p1 (g:=w1.heap.size) rfl (.slice none 0 0) 25
 refine HA.out.stepV HT HN (fun _ h e=>P.list0 hR.ok ⟨#[41]⟩ 1 f _ _ (fun _=>by kernel_rfl) h.s e) ?_ ?_
 ·intro _ _ _ H;go_wp2_with fail;exact⟨rfl,Ans.badh H⟩
 clear zr zob zpb yr HT HA
 intro rr q2 w2 HT HA
 obtain⟨zkb,zr,zob,zpb,-⟩:=HA.out.fs
 have yr:=HA.out.fw 1 rfl
 go_wp2_with fail
 refine HA.out.node0 21 ⟨#[]⟩ o.from' HT ?_
 clear zkb zr zob zpb yr HT HA
 intro k ak ck w3 _ HT HA
 obtain⟨zkb,zr,zob,zpb,-⟩:=HA.out.fs
 have yr:=HA.out.fw 1 rfl
 go_wp2_with fail
 exact HA.out.fin_nd 1 0 rfl rfl rfl rfl rfl HT.out.symm
end
section
open Go.RowKit
attribute [local go_sem] ab3 ab4 ab5 ab6 ab7 ab8
attribute [local go_sem ↓] Go.wp_at_zero Go.wp_at_succ
theorem Sa.addk {E:PE} {F0 X:Nat→Prop} {w0 w:World} {q:Ps} {bs:List Box} {ns:List Kd} {ro:Option (Value × List Kd)} (h:Sa E F0 X w0 w q bs ns ro) (n:Nd) (a:Option Addr) (c:Nat) (hk:n.kids= []):Sa E F0 X w0 w q bs ((n,a,c)::ns) ro:=by
 obtain⟨F,h⟩:=h
 refine⟨F,h.node ⟨a,c,rfl,by rw [hk];exact Nat.zero_le _,?_⟩⟩
 rw [hk]
 exact au7 _ _ _ _
theorem C.callable1 {E:PE} {R:(x:Fn)→PM x.Out} (hR:Env E R) (text:ByteArray) (from':Int) (id:Nd) (aid:Option Addr) (cid:Nat) (hk0:id.kids= []) {pb ob xb fb ib nb:Nat} :
  CloS E (fun j=>j=nb) [(pb,false,.p E.b),(ob,false,.c1 (.string ⟨#[]⟩) 9),(xb,false,.c1 (.string text) 9),(fb,false,.c1 (.int .i64 from') 3),(ib,false,.nd id aid cid),(nb,true,.nb)] (InB E nb) (do
  let params←R (.formals ⟨#[]⟩)
  let body←R .function
  ac7 19 text from' [id,params,body]) 270 #[.pointer (some ⟨pb,0,none⟩),.pointer (some ⟨ob,0,none⟩),.pointer (some ⟨xb,0,none⟩),.pointer (some ⟨fb,0,none⟩),.pointer (some ⟨ib,0,none⟩),.pointer (some ⟨nb,0,none⟩)]:=by
 intro F w p h hB hd hne
 obtain⟨T,hT⟩: ∃T,(do
   let params←R (.formals ⟨#[]⟩)
   let body←R .function
   ac7 19 text from' [id,params,body]) p=T:=⟨_,rfl⟩
 rw [hT] at hne⊢
 have HT:=hJ hT
 have HN:=hJ hne
 have HA:=Sa.start (X:=(fun j=>j=nb)) h [] _ (fun _ h=>by cases h) hB (by simp) hd
 clear h hne hT hB hd
 replace HA:=hJ (Sa.addk HA.out id aid cid hk0)
 clear hk0
 obtain⟨zpb,zob,zxb,zfb,zib,znb,-⟩:=HA.out.fs
 have ynb:=HA.out.fw 5 rfl
 go_enter Tryz.func270,Tryz.ntmps270
 go_wp2_with fail
 refine HA.out.stepN HT HN (fun _ h e=>hR.h (.formals ⟨#[]⟩) _ _ _ h.s e) ?_ ?_
 ·intro _ _ _ H;go_wp2_with fail;exact⟨rfl,Ans.badh H⟩
 clear zpb zob zxb zfb zib znb ynb HT HA
 intro ps aps cps q1 w1 HT HA
 obtain⟨zpb,zob,zxb,zfb,zib,znb,-⟩:=HA.out.fs
 have ynb:=HA.out.fw 5 rfl
 go_wp2_with fail
 replace HA:=HA.out.pN (g:=w1.heap.size) rfl ps aps cps
 refine HA.out.stepN HT HN (fun _ h e=>hR.h .function _ _ _ h.s e) ?_ ?_
 ·intro _ _ _ H;go_wp2_with fail;exact⟨rfl,Ans.badh H⟩
 clear zpb zob zxb zfb zib znb ynb HT HA
 intro bd abd cbd q2 w2 HT HA
 obtain⟨zps,zpb,zob,zxb,zfb,zib,znb,-⟩:=HA.out.fs
 have ynb:=HA.out.fw 6 rfl
 replace HT:=ac9 HT
 go_wp2_with fail
 replace HA:=HA.out.pN (g:=w2.heap.size) rfl bd abd cbd
 refine HA.out.node 19 text from' [(id,aid,cid),(ps,aps,cps),(bd,abd,cbd)] (by simp) rfl (by simp) rfl rfl HT ?_
 clear zps zpb zob zxb zfb zib znb ynb HT HA
 intro m am cm w3 _ HT HA
 obtain⟨zbd,zps,zpb,zob,zxb,zfb,zib,znb,-⟩:=HA.out.fs
 have ynb:=HA.out.fw 7 rfl
 go_wp2_with fail
 exact HA.out.fin_cl 7 0 rfl rfl rfl rfl HT.out.symm
theorem S.callableG {E:PE} {R:(x:Fn)→PM x.Out} (hR:Env E R) {F:Nat→Prop} {w:World} {p:Ps} (from':Int) (id:Nd) (v:Value) (hn:IsP E F w id v) (hk0:id.kids= []) (h:St E F w p) (hne:am2 3 6 (do
  let params←R (.formals ⟨#[]⟩)
  let body←R .function
  ac7 19 ⟨#[42]⟩ from' [id,params,body]) p≠ .out):
  Calls Tryz.prog 241 #[.pointer (some ⟨E.b,0,none⟩),.string ⟨#[42]⟩,.int .i64 from',v,.string ⟨#[]⟩] w (Ans E F X0 w (am2 3 6 (do
  let params←R (.formals ⟨#[]⟩)
  let body←R .function
  ac7 19 ⟨#[42]⟩ from' [id,params,body]) p) fun n v w'=>IsP E F w' n v):=by
 obtain⟨T,hT⟩: ∃T,am2 3 6 (do
   let params←R (.formals ⟨#[]⟩)
   let body←R .function
   ac7 19 ⟨#[42]⟩ from' [id,params,body]) p=T:=⟨_,rfl⟩
 rw [hT] at hne⊢
 have HK0:=hJ hk0
 clear hk0
 have HT:=hJ hT
 have HN:=hJ hne
 obtain⟨aid,cid,rfl,hn0⟩:=hn.form
 have HA:=Sa.start1 (X:=X0) h hn0
 clear h hne hT hn hn0
 go_enter Tryz.func241,Tryz.ntmps241
 go_wp2_with fail
 replace HT:=ac9 HT
 replace HA:=HA.out.pP (g:=w.heap.size) rfl
 replace HA:=HA.out.p1 (g:=(w.heap.size+1)) (by simp) (.string ⟨#[42]⟩) 9
 replace HA:=HA.out.p1 (g:=(w.heap.size+2)) (by simp) (.int .i64 from') 3
 replace HA:=HA.out.pN (g:=(w.heap.size+3)) (by simp) id aid cid
 replace HA:=HA.out.p1 (g:=(w.heap.size+4)) (by simp) (.string ⟨#[]⟩) 9
 replace HA:=HA.out.pZ (g:=(w.heap.size+5)) (by simp)
 refine HA.out.with hR.ok 3 6 HT HN (fun _=>by kernel_rfl) (C.callable1 hR ⟨#[42]⟩ from' id aid cid HK0.out) (.tail _ (.tail _ (.tail _ (.tail _ (.tail _ (.head _)))))) [5,1,4,3,2,0] ⟨⟨_,_,rfl,.inl rfl⟩,⟨_,_,rfl,.inl rfl⟩,⟨_,_,rfl,.inl rfl⟩,⟨_,_,rfl,.inl rfl⟩,⟨_,_,rfl,.inl rfl⟩,⟨_,_,rfl,.inr ⟨rfl,_,_,_,_,_,_,_,rfl⟩⟩,trivial⟩ (by decide) 0 rfl ?_ ?_
 ·intro _ _ _ H;go_wp2_with fail;exact⟨rfl,Ans.badh H⟩
 clear HT HA
 intro n an cn q1 w1 HT HA
 dsimp only [ae4] at HA
 obtain⟨zr,zob,zib,zfb,zxb,zpb,-⟩:=HA.out.fs
 have yr:=HA.out.fw 0 rfl
 go_wp2_with fail
 exact HA.out.fin_nd 0 0 rfl rfl rfl rfl rfl HT.out.symm
theorem S.callableF {E:PE} {R:(x:Fn)→PM x.Out} (hR:Env E R) {F:Nat→Prop} {w:World} {p:Ps} (from':Int) (id:Nd) (v:Value) (hn:IsP E F w id v) (hk0:id.kids= []) (h:St E F w p) (hne:am2 1 6 (do
  let params←R (.formals ⟨#[]⟩)
  let body←R .function
  ac7 19 ⟨#[]⟩ from' [id,params,body]) p≠ .out):
  Calls Tryz.prog 241 #[.pointer (some ⟨E.b,0,none⟩),.string ⟨#[]⟩,.int .i64 from',v,.string ⟨#[]⟩] w (Ans E F X0 w (am2 1 6 (do
  let params←R (.formals ⟨#[]⟩)
  let body←R .function
  ac7 19 ⟨#[]⟩ from' [id,params,body]) p) fun n v w'=>IsP E F w' n v):=by
 obtain⟨T,hT⟩: ∃T,am2 1 6 (do
   let params←R (.formals ⟨#[]⟩)
   let body←R .function
   ac7 19 ⟨#[]⟩ from' [id,params,body]) p=T:=⟨_,rfl⟩
 rw [hT] at hne⊢
 have HK0:=hJ hk0
 clear hk0
 have HT:=hJ hT
 have HN:=hJ hne
 obtain⟨aid,cid,rfl,hn0⟩:=hn.form
 have HA:=Sa.start1 (X:=X0) h hn0
 clear h hne hT hn hn0
 go_enter Tryz.func241,Tryz.ntmps241
 go_wp2_with fail
 replace HT:=ac9 HT
 replace HA:=HA.out.pP (g:=w.heap.size) rfl
 replace HA:=HA.out.p1 (g:=(w.heap.size+1)) (by simp) (.string ⟨#[]⟩) 9
 replace HA:=HA.out.p1 (g:=(w.heap.size+2)) (by simp) (.int .i64 from') 3
 replace HA:=HA.out.pN (g:=(w.heap.size+3)) (by simp) id aid cid
 replace HA:=HA.out.p1 (g:=(w.heap.size+4)) (by simp) (.string ⟨#[]⟩) 9
 replace HA:=HA.out.pZ (g:=(w.heap.size+5)) (by simp)
 refine HA.out.with hR.ok 1 6 HT HN (fun _=>by kernel_rfl) (C.callable1 hR ⟨#[]⟩ from' id aid cid HK0.out) (.tail _ (.tail _ (.tail _ (.tail _ (.tail _ (.head _)))))) [5,1,4,3,2,0] ⟨⟨_,_,rfl,.inl rfl⟩,⟨_,_,rfl,.inl rfl⟩,⟨_,_,rfl,.inl rfl⟩,⟨_,_,rfl,.inl rfl⟩,⟨_,_,rfl,.inl rfl⟩,⟨_,_,rfl,.inr ⟨rfl,_,_,_,_,_,_,_,rfl⟩⟩,trivial⟩ (by decide) 0 rfl ?_ ?_
 ·intro _ _ _ H;go_wp2_with fail;exact⟨rfl,Ans.badh H⟩
 clear HT HA
 intro n an cn q1 w1 HT HA
 dsimp only [ae4] at HA
 obtain⟨zr,zob,zib,zfb,zxb,zpb,-⟩:=HA.out.fs
 have yr:=HA.out.fw 0 rfl
 go_wp2_with fail
 exact HA.out.fin_nd 0 0 rfl rfl rfl rfl rfl HT.out.symm
theorem S.callable {E:PE} {R:(x:Fn)→PM x.Out} (hR:Env E R) {F:Nat→Prop} {w:World} {p:Ps} (text:ByteArray) (from':Int) (id:Nd) (of:ByteArray) (v:Value) (hn:IsP E F w id v) (h:St E F w p) (hne:aj7 R text from' id of p≠ .out):
  Calls Tryz.prog 241 #[.pointer (some ⟨E.b,0,none⟩),.string text,.int .i64 from',v,.string of] w (Ans E F X0 w (aj7 R text from' id of p) fun n v w'=>IsP E F w' n v):=by
 have e: ∀x,aj7 R text from' id of=x→aj7 R text from' id of p=x p:=fun x h=>by rw [h]
 by_cases ho:of≠⟨#[]⟩∨id.kids≠ []
 ·exact absurd (e _ (if_pos ho)) hne
 have ho2:of=⟨#[]⟩:=Decidable.byContradiction fun h=>ho (.inl h)
 have hk0:id.kids= []:=Decidable.byContradiction fun h=>ho (.inr h)
 by_cases h1:text=⟨#[42]⟩
 ·have e2:=e _ (show _=_ by unfold aj7;rw [if_neg ho,if_pos h1])
  rw [e2] at hne⊢
  subst h1 ho2
  exact S.callableG hR from' id v hn hk0 h hne
 by_cases h2:text=⟨#[]⟩
 ·have e2:=e _ (show _=_ by unfold aj7;rw [if_neg ho,if_neg h1,if_pos h2])
  rw [e2] at hne⊢
  subst h2 ho2
  exact S.callableF hR from' id v hn hk0 h hne
 ·exact absurd (e _ (show _=_ by unfold aj7;rw [if_neg ho,if_neg h1,if_neg h2])) hne
end
section
open Go.RowKit
attribute [local go_sem] ab3 ab4 ab5 ab6 ab7 ab8
attribute [local go_sem ↓] Go.wp_at_zero Go.wp_at_succ
theorem S.trailing {E:PE} {R:(x:Fn)→PM x.Out} (hR:Env E R) {F:Nat→Prop} {w:World} {p:Ps} (n:Nd) (v:Value) (hn:IsP E F w n v) (h:St E F w p) (hne:am1 E.s n p≠ .out):
  Calls Tryz.prog 312 #[.pointer (some ⟨E.b,0,none⟩),v] w (Ans E F X0 w (am1 E.s n p) fun b v _=>v= .bool b):=by
 obtain⟨T,hT⟩: ∃T,am1 E.s n p=T:=⟨_,rfl⟩
 rw [hT] at hne⊢
 unfold am1 at hT
 by_cases hbig:4194304<n.kids.length
 ·rw [if_pos hbig] at hT
  exact absurd hT.symm hne
 rw [if_neg hbig] at hT
 cases hg:n.kids.getLast? with
 |none=>rw [hg] at hT;exact absurd hT.symm hne
 |some m=>
 rw [hg] at hT
 simp only at hT
 rw [List.getLast?_eq_getElem?] at hg
 have hlen:n.kids.length - 1<n.kids.length:=(List.getElem?_eq_some_iff.1 hg).1
 have hgm:n.kids[n.kids.length - 1]=m:=(List.getElem?_eq_some_iff.1 hg).2
 have HGM:=hJ hgm
 clear hg hgm
 have HT:=hJ hT
 have HN:=hJ hne
 obtain⟨an,cn,rfl,hn0⟩:=hn.form
 have HA:=Sa.start1 (X:=X0) h hn0
 clear h hne hT hn hn0
 go_enter Tryz.func312,Tryz.ntmps312
 go_upto_region 1 with fail
 replace HA:=HA.out.pN (g:=w.heap.size) rfl n an cn
 generalize (w.alloc (.cells #[.int .i64 n.kind,.string n.text,.slice an n.kids.length cn,.int .i64 n.from',.int .i64 n.till] 27))=w1 at*
 obtain⟨zn,-⟩:=HA.out.fs
 obtain⟨g0,off0,am,cm,han,hg0,k0,k1,k2,k3,k4,HK⟩:=HA.out.kid 0 rfl hlen
 rw [HGM.out] at k0 k1 k2 k3 k4 HK
 have hts:((n.kids.length:Int) - 1).toNat=n.kids.length - 1:=by omega
 have hts1:(0:Int)≤(n.kids.length:Int) - 1:=by omega
 have hts2:(n.kids.length:Int) - 1<(n.kids.length:Int):=by omega
 have hts3:0<n.kids.length:=by omega
 have hwr:wrap64 ((n.kids.length:Int) - 1)=(n.kids.length:Int) - 1:=IntWalk.wrap64_in _ (by omega)
 replace HA:=HK
 go_upto_region 2 with fail
 clear k0 k1 k2 k3 k4 hts hts1 hts2 hts3 hwr han hg0 HK HGM
 go_wp2_with fail
 replace HA:=HA.out.pN (g:=w1.heap.size) rfl m am cm
 refine HA.out.look hR.ok m.till HT HN ?_
 clear zn HT HA
 intro t w2 HT HA
 obtain⟨zm,zn,-⟩:=HA.out.fs
 go_wp2_with fail
 replace HA:=HA.out.pT (g:=w2.heap.size) rfl t
 refine HA.out.stepQ (fun _ h=>P.punct t ⟨#[44]⟩ _) ?_
 clear zm zn HA
 intro w3 HA
 obtain⟨zt,zm,zn,-⟩:=HA.out.fs
 go_wp2_with fail
 go_ret
 exact HA.out.ans HT.out.symm rfl
end
section
open Go.RowKit
attribute [local go_sem] ab3 ab4 ab5 ab6 ab7 ab8
attribute [local go_sem ↓] Go.wp_at_zero Go.wp_at_succ
theorem Sa.lit {E:PE} {F0 X:Nat→Prop} {w0 w:World} {q:Ps} {bs:List Box} {ns:List Kd} {ro:Option (Value × List Kd)} (h:Sa E F0 X w0 w q bs ns ro) (k:Int) (t:ByteArray) (l:List Kd) (hl: ∀x ∈ l,x ∈ ns) (f u:Int) {W:World} (hW:W=w.alloc (.cells (l.flatMap aa8).toArray 27)) {g m:Nat} (hg:w.heap.size=g) (hm:l.length=m):
  Hid (Sa E F0 X w0 W q bs ((.mk k t (l.map (·.1)) f u,some ⟨g,0,none⟩,m)::ns) ro):=by
 subst hW hg hm
 obtain⟨F,h⟩:=h
 obtain⟨a,c,e,h1,h2⟩:=ksN h.s l fun x hx=>h.n x (hl x hx)
 obtain⟨rfl,_,rfl⟩:=Value.slice.inj e
 exact⟨F,(h.keep (Only.alloc (Only.refl _ _) _)).node ⟨_,_,rfl,h1,h2⟩⟩
theorem Sa.same {E:PE} {F0 X:Nat→Prop} {w0 w:World} {q:Ps} {bs:List Box} {ns:List Kd} {ro:Option (Value × List Kd)} (h:Sa E F0 X w0 w q bs ns ro) (i:Nat) {n:Nd} {a:Option Addr} {c:Nat} (hi:nth ns i=some (n,a,c)) (k:Int) (t:ByteArray) (f u:Int):
  Hid (Sa E F0 X w0 w q bs ((.mk k t n.kids f u,a,c)::ns) ro):=by
 obtain⟨F,h⟩:=h
 obtain⟨a1,c1,e1,h1,h2⟩:=h.n _ (ab1 hi)
 exact⟨F,h.node ⟨a1,c1,by cases e1;rfl,h1,h2⟩⟩
theorem aL3 (w:World) (o:Obj) {g:Nat} (hg:g<w.heap.size) (u0 u1 u2 u3 u4:Value):(((((w.setCell ⟨g,0,none⟩ u0).setCell ⟨g,1,none⟩ u1).setCell ⟨g,2,none⟩ u2).setCell ⟨g,3,none⟩ u3).setCell ⟨g,4,none⟩ u4).alloc o=(((((w.alloc o).setCell ⟨g,0,none⟩ u0).setCell ⟨g,1,none⟩ u1).setCell ⟨g,2,none⟩ u2).setCell ⟨g,3,none⟩ u3).setCell ⟨g,4,none⟩ u4:=by
 rw [World.setCell_alloc_past _ _ _ _ hg,World.setCell_alloc_past _ _ _ _ (by simpa using hg),World.setCell_alloc_past _ _ _ _ (by simpa using hg),World.setCell_alloc_past _ _ _ _ (by simpa using hg),World.setCell_alloc_past _ _ _ _ (by simpa using hg)]
theorem Sa.blt {E:PE} {F0 X:Nat→Prop} {w0 w:World} {q:Ps} {bs:List Box} {ns:List Kd} {ro:Option (Value × List Kd)} (h:Sa E F0 X w0 w q bs ns ro) (i:Nat) {g:Nat} {o:Bool} {b:Bx} (hb:nth bs i=some (g,o,b)):g<w.heap.size:=h.elim fun _ h=>(h.bx _ (ab1 hb)).2.1.lt
theorem Sa.fin_par {E:PE} {F0 X:Nat→Prop} {w0 w:World} {q:Ps} {bs:List Box} {ns:List Kd} {ro:Option (Value × List Kd)} {fn:Func} {tmps:Array Value} {r:Tmp} {g:Nat} {b:Bx} {x:Nd} {ax:Option Addr} {cx:Nat} {T:Res Nd} {f u:Int} {o:Obj}
  (h:Sa E F0 X w0 w q bs ns ro) (i j:Nat) (hr:fn.results= #[.cell r 27]) (hr2:tmps.getD r undef= .pointer (some ⟨g,0,none⟩)) (hb:nth bs i=some (g,true,b)) (ht2:b.ty=some 27) (hn:nth ns j=some (x,ax,cx)) (ht:T= .ok (.mk 26 ⟨#[]⟩ [x] f u) q):
  bodyPost Tryz.prog fn (Ans E F0 X w0 T fun n v w'=>IsP E F0 w' n v) Exit.ret { tmps:=tmps,defers:= [] } (((((((w.setCell ⟨g,0,none⟩ (.int .i64 26)).setCell ⟨g,1,none⟩ (.string ⟨#[]⟩)).setCell ⟨g,2,none⟩ (.slice (some ⟨w.heap.size+1,0,none⟩) 1 1)).setCell ⟨g,3,none⟩ (.int .i64 f)).setCell ⟨g,4,none⟩ (.int .i64 u)).alloc o).alloc (.cells #[.int .i64 x.kind,.string x.text,.slice ax x.kids.length cx,.int .i64 x.from',.int .i64 x.till] 27)):=by
 have hlt:=h.blt i hb
 have h1:=(h.alloc o).out
 have h2:=(h1.lit 26 ⟨#[]⟩ [(x,ax,cx)] (fun y hy=>by rw [List.mem_singleton.1 hy];exact ab1 hn) f u (W:=(w.alloc o).alloc (.cells #[.int .i64 x.kind,.string x.text,.slice ax x.kids.length cx,.int .i64 x.from',.int .i64 x.till] 27)) rfl (g:=w.heap.size+1) (World.size_alloc _ _) (m:=1) rfl).out
 have h3:=h2.fin_nd (fn:=fn) (tmps:=tmps) (r:=r) i 0 hr hr2 hb ht2 rfl ht
 rw [aL3 w o hlt,aL3 (w.alloc o) _ (by rw [World.size_alloc];omega)]
 exact h3
theorem Sa.fin_par1 {E:PE} {F0 X:Nat→Prop} {w0 w:World} {q:Ps} {bs:List Box} {ns:List Kd} {ro:Option (Value × List Kd)} {fn:Func} {tmps:Array Value} {r:Tmp} {g:Nat} {b:Bx} {ks:List Nd} {ax:Option Addr} {cx:Nat} {T:Res Nd} {f u xf xu:Int}
  (h:Sa E F0 X w0 w q bs ns ro) (i j:Nat) (hr:fn.results= #[.cell r 27]) (hr2:tmps.getD r undef= .pointer (some ⟨g,0,none⟩)) (hb:nth bs i=some (g,true,b)) (ht2:b.ty=some 27) (hn:nth ns j=some (.mk 32 ⟨#[]⟩ ks xf xu,ax,cx)) (ht:T= .ok (.mk 26 ⟨#[]⟩ [.mk 32 ⟨#[]⟩ ks xf xu] f u) q):
  bodyPost Tryz.prog fn (Ans E F0 X w0 T fun n v w'=>IsP E F0 w' n v) Exit.ret { tmps:=tmps,defers:= [] } ((((((w.setCell ⟨g,0,none⟩ (.int .i64 26)).setCell ⟨g,1,none⟩ (.string ⟨#[]⟩)).setCell ⟨g,2,none⟩ (.slice (some ⟨w.heap.size,0,none⟩) 1 1)).setCell ⟨g,3,none⟩ (.int .i64 f)).setCell ⟨g,4,none⟩ (.int .i64 u)).alloc (.cells #[.int .i64 32,.string ⟨#[]⟩,.slice ax ks.length cx,.int .i64 xf,.int .i64 xu] 27)):=by
 have hlt:=h.blt i hb
 have h2:=(h.lit 26 ⟨#[]⟩ [(.mk 32 ⟨#[]⟩ ks xf xu,ax,cx)] (fun y hy=>by rw [List.mem_singleton.1 hy];exact ab1 hn) f u (W:=w.alloc (.cells #[.int .i64 32,.string ⟨#[]⟩,.slice ax ks.length cx,.int .i64 xf,.int .i64 xu] 27)) rfl (g:=w.heap.size) rfl (m:=1) rfl).out
 have h3:=h2.fin_nd (fn:=fn) (tmps:=tmps) (r:=r) i 0 hr hr2 hb ht2 rfl ht
 rw [aL3 w _ hlt]
 exact h3
theorem aT6 {args x y:Nd} (h1: ¬args.kids.length=1) (h0:0<args.kids.length) (hx:args.kids[0]=x) (hy:args.kids[args.kids.length - 1]=y):aP8 args (args.kids.getLastD .zero)= .mk 26 ⟨#[]⟩ [.mk 32 ⟨#[]⟩ args.kids x.from' y.till] args.from' args.till:=by
 have hl:args.kids.getLastD .zero=y:=by
  rw [List.getLastD_eq_getLast?,List.getLast?_eq_getElem?,List.getElem?_eq_getElem (show args.kids.length - 1<args.kids.length by omega),hy]
  rfl
 rw [hl]
 clear hl hy
 unfold aP8
 generalize args.kids=ks at*
 cases ks with
 |nil=>exact absurd h0 (by decide)
 |cons a l=>
  cases l with
  |nil=>exact absurd rfl h1
  |cons b l=>
   obtain rfl:a=x:=hx
   rfl
def PrL (E:PE) (F:Nat→Prop) (w:World) (n:Nd) (a:Option Addr) (c:Nat) (q:Ps) (gn gr gt:Nat) (t:Tk) (k:Nat) (u:Value) (wr:World):Prop:=
 ∃(i:Nat),u= .int .i64 (i:Int)∧i+k=n.kids.length+1∧i≤n.kids.length∧Hid (Sa E F X0 w wr q [(gn,true,.nd n a c),(gr,true,.z),(gt,true,.tk t)] [(n,a,c)] none)
theorem S.parenR {E:PE} {R:(x:Fn)→PM x.Out} (hR:Env E R) {F:Nat→Prop} {w:World} {p:Ps} (t:Tk) (h:St E F w p) (hne:aP9 E.s R t p≠ .out):
  Calls Tryz.prog 298 #[.pointer (some ⟨E.b,0,none⟩),.agg #[.int .i64 t.kind,.string t.text,.int .i64 t.from',.int .i64 t.till,.bool t.line]] w (Ans E F X0 w (aP9 E.s R t p) fun n v w'=>IsP E F w' n v):=by
 obtain⟨T,hT⟩: ∃T,aP9 E.s R t p=T:=⟨_,rfl⟩
 rw [hT] at hne⊢
 unfold aP9 at hT
 have HT:=hJ hT
 have HN:=hJ hne
 have HA:=Sa.start0 (X:=X0) h
 clear h hne hT
 replace HT:=hget HT
 go_enter Tryz.func298,Tryz.ntmps298
 go_upto_region 1 with fail
 replace HA:=HA.out.pT (g:=w.heap.size) rfl t
 replace HA:=HA.out.pZ (g:=(w.heap.size+1)) (by simp)
 generalize ((w.alloc (.cells #[.int .i64 t.kind,.string t.text,.int .i64 t.from',.int .i64 t.till,.bool t.line] 49)).alloc (.cells #[.int .i64 0,.string ⟨#[]⟩,.slice none 0 0,.int .i64 0,.int .i64 0] 27))=w1 at*
 obtain⟨zr,zt,-⟩:=HA.out.fs
 have yr:=HA.out.fw 0 rfl
 have cEarrow:=HA.out.c_arrow
 have lE:=HA.out.lt
 go_wp2_with fail
 go_quiet (fail)
 clear zr zt yr cEarrow lE
 generalize hwq:World.drewN w1 _=w2
 replace HA:=HA.out.drewE hwq
 clear hwq
 obtain⟨zr,zt,-⟩:=HA.out.fs
 have yr:=HA.out.fw 0 rfl
 go_wp2_with fail
 refine HA.out.stepV HT HN (fun _ h e=>P.take hR.ok h.s e) ?_ ?_
 ·intro _ _ _ H;go_wp2_with fail;exact⟨rfl,Ans.badh H⟩
 clear zr zt yr HT HA
 intro _ q3 w3 HT HA
 obtain⟨zr,zt,-⟩:=HA.out.fs
 have yr:=HA.out.fw 0 rfl
 go_wp2_with fail
 refine HA.out.stepN HT HN (fun _ h e=>hR.h (.arguments t.from') _ _ _ h.s e) ?_ ?_
 ·intro _ _ _ H;go_wp2_with fail;exact⟨rfl,Ans.badh H⟩
 clear zr zt yr HT HA
 intro n an cn q4 w4 HT HA
 obtain⟨zr,zt,-⟩:=HA.out.fs
 have yr:=HA.out.fw 0 rfl
 cases hm:decide (t.from'=p.arrow)
 focus
  rw [if_neg (by exact of_decide_eq_false hm)] at HT
  replace HT:=bd9 HT
  replace HT:=hneg HT (by decide)
  have hmw:(t.from'==p.arrow)=false:=beq_eq_false_iff_ne.2 (of_decide_eq_false hm)
  clear hm
  go_upto_region 8 with fail
  replace HA:=HA.out.pN (g:=w4.heap.size) rfl n an cn
  clear zr zt yr
  replace HA:=hJ (HA.out.pick [0,1,2] [0] (by decide))
  dsimp only [pick,nth] at HA
  generalize (w4.alloc (.cells #[.int .i64 n.kind,.string n.text,.slice an n.kids.length cn,.int .i64 n.from',.int .i64 n.till] 27))=wj at HA⊢
  generalize q4=qj at HA HT
  generalize n=nj at HA HT⊢
  generalize an=anj at HA⊢
  generalize cn=cnj at HA⊢
 rotate_left
 focus
  rw [if_pos (by exact of_decide_eq_true hm)] at HT
  replace HT:=bk2 HT
  have hmw:(t.from'==p.arrow)=true:=by rw [beq_iff_eq];exact of_decide_eq_true hm
  have hm':=hJ hm
  clear hm
  go_wp2_with fail
  replace HA:=HA.out.pN (g:=w4.heap.size) rfl n an cn
  refine HA.out.stepV HT HN (fun _ h e=>P.peek hR.ok 1 h.s e) ?_ ?_
  ·intro _ _ _ H;go_wp2_with fail;exact⟨rfl,Ans.badh H⟩
  clear zr zt yr HT HA
  intro next q5 w5 HT HA
  obtain⟨zn,zr,zt,-⟩:=HA.out.fs
  have yr:=HA.out.fw 1 rfl
  replace HT:=bd9 HT
  go_wp2_with fail
  replace HA:=HA.out.pT (g:=w5.heap.size) rfl next
  refine HA.out.stepQ (fun _ h=>P.punct next ⟨#[61,62]⟩ _) ?_
  clear zn zr zt yr HA
  intro w6 HA
  obtain⟨znext,zn,zr,zt,-⟩:=HA.out.fs
  have yr:=HA.out.fw 2 rfl
  cases hp:aa2 next ⟨#[61,62]⟩
  focus
   replace HT:=hneg HT (by rw [hp];simp)
   have hp':=hJ hp
   clear hp
   go_upto_region 8 with fail
   clear znext zn zr zt yr
   replace HA:=hJ (HA.out.pick [1,2,3] [0] (by decide))
   dsimp only [pick,nth] at HA
   generalize w6=wj at HA⊢
   generalize q5=qj at HA HT
   generalize n=nj at HA HT⊢
   generalize an=anj at HA⊢
   generalize cn=cnj at HA⊢
  rotate_left
  focus
   cases hl:next.line
   focus
    replace HT:=hpos HT (by rw [hp,hl];rfl)
    rcases at1 HT HN with ⟨ps,r98,HX,hk⟩|⟨c,i,HX,hk⟩
    ·replace HT:=hk;clear hk
     replace HT:=ac9 HT
     rcases at1 HT HN with ⟨z,r101,HX2,hk⟩|⟨c,i,HX2,hk⟩
     ·replace HT:=hk;clear hk
      go_wp2_with fail
      replace HA:=HA.out.drew
      go_region_with (first|(go_at_call 244;refine HA.out.gotN HX (fun _ h e=>hR.h (.params n) _ _ _ _ (h.ni 0 rfl) h.s e) ?_;clear znext zn zr zt yr HA;intro aps cps w7 HA;obtain⟨znext,zn,zr,zt,-⟩:=HA.out.fs;have yr:=HA.out.fw 2 rfl)|(go_at_call 84;refine HA.out.gotN HX2 (fun _ h e=>hR.h (.body ⟨#[]⟩ t.from' ps) _ _ _ _ (h.ni 0 rfl) h.s e) ?_;clear znext zn zr zt yr HA;intro az cz w8 HA;obtain⟨znext,zn,zr,zt,-⟩:=HA.out.fs;have yr:=HA.out.fw 2 rfl))
      all_goals
       go_wp2_with fail
       exact HA.out.fin_nd 2 0 rfl rfl rfl rfl rfl HT.out.symm
     ·replace HT:=hk;clear hk
      go_wp2_with fail
      replace HA:=HA.out.drew
      go_region_with (first|(go_at_call 244;refine HA.out.gotN HX (fun _ h e=>hR.h (.params n) _ _ _ _ (h.ni 0 rfl) h.s e) ?_;clear znext zn zr zt yr HA;intro aps cps w7 HA;obtain⟨znext,zn,zr,zt,-⟩:=HA.out.fs;have yr:=HA.out.fw 2 rfl)|(go_at_call 84;refine HA.out.gotbad (.agg #[.int .i64 0,.string ⟨#[]⟩,.slice none 0 0,.int .i64 0,.int .i64 0]) HX2 HT (fun _ h e=>hR.h (.body ⟨#[]⟩ t.from' ps) _ _ _ _ (h.ni 0 rfl) h.s e) (fun _ H=>by (go_wp2_with fail);exact⟨rfl,Ans.badh H⟩) ?_;intro HF))
      all_goals
       exact HF.out.elim
    ·replace HT:=hk;clear hk
     go_wp2_with fail
     replace HA:=HA.out.drew
     go_region_with (first|(go_at_call 244;refine HA.out.gotbad (.agg #[.int .i64 0,.string ⟨#[]⟩,.slice none 0 0,.int .i64 0,.int .i64 0]) HX HT (fun _ h e=>hR.h (.params n) _ _ _ _ (h.ni 0 rfl) h.s e) (fun _ H=>by (go_wp2_with fail);exact⟨rfl,Ans.badh H⟩) ?_;intro HF)|(go_at_call 84;refine av1 (.agg #[.int .i64 0,.string ⟨#[]⟩,.slice none 0 0,.int .i64 0,.int .i64 0]) HF ?_))
     all_goals
      exact HF.out.elim
   focus
    replace HT:=hneg HT (by rw [hp,hl];decide)
    have hp':=hJ hp
    clear hp
    go_upto_region 8 with fail
    clear znext zn zr zt yr
    replace HA:=hJ (HA.out.pick [1,2,3] [0] (by decide))
    dsimp only [pick,nth] at HA
    generalize w6=wj at HA⊢
    generalize q5=qj at HA HT
    generalize n=nj at HA HT⊢
    generalize an=anj at HA⊢
    generalize cn=cnj at HA⊢
 all_goals
  obtain⟨zn,zr,zt,-⟩:=HA.out.fs
  have yr:=HA.out.fw 1 rfl
  unfold bA6 at HT
  by_cases hkk:(nj.kids.isEmpty||nj.kids.any (fun k=>decide (k.kind=18)))=true
  ·rw [if_pos hkk] at HT
   exact absurd HT.out.symm HN.out
  rw [if_neg hkk] at HT
  rw [Bool.or_eq_true,not_or,List.isEmpty_iff,List.any_eq_true] at hkk
  obtain⟨hne0,hany⟩:=hkk
  have hlen:0<nj.kids.length:=List.length_pos_iff.2 hne0
  have hsz:nj.kids.length≤4194304:=by
   by_cases hbig:4194304<nj.kids.length
   ·have e9:am1 E.s nj=outP:=by unfold am1;rw [if_pos hbig]
    rw [e9] at HT
    exact absurd (show T=Res.out from HT.out.symm) HN.out
   ·omega
  have HKI:=hJ (fun(j:Nat) (hj:j<nj.kids.length) (h:nj.kids[j].kind=18)=>hany ⟨_,List.getElem_mem hj,decide_eq_true h⟩)
  clear hany hne0
  have hz0:((nj.kids.length:Int)==0)=false:=beq_eq_false_iff_ne.2 (by omega)
  go_wp2_with fail
  refine HA.out.stepV HT HN (fun _ h e=>S.trailing hR nj _ (h.ni 0 rfl) h.s e) ?_ ?_
  ·intro _ _ _ H;go_wp2_with fail;exact⟨rfl,Ans.badh H⟩
  clear zn zr zt yr HT HA
  intro b q5 w5 HT HA
  obtain⟨zn,zr,zt,-⟩:=HA.out.fs
  have yr:=HA.out.fw 1 rfl
  cases b with
  |true=>
   replace HT:=hpos HT (by rfl)
   exact absurd HT.out.symm HN.out
  |false=>
   replace HT:=hneg HT (by decide)
   go_wp2_with fail
   clear zn zr zt yr
   have HLN:=hJ hlen
   clear hlen
   go_loopg [48] (nj.kids.length+1) (fun k u wr=>PrL E F w nj anj cnj q5 (w4.heap.size) ((w.heap.size+1)) (w.heap.size) t k u wr)
   case atStart=>exact⟨0,rfl,by omega,Nat.zero_le _,HA.out.pick [0,1,2] [0] (by decide)⟩
   case round=>
    clear HA
    obtain⟨i,rfl,hik,hil,HA⟩:=hrel
    cases gk with
    |zero=>omega
    |succ k=>
     by_cases hlt:i<nj.kids.length
     ·obtain⟨g0,off0,ax,cx,rfl,hg0,k0,k1,k2,k3,k4,hA⟩:=HA.out.kid 0 rfl hlt
      replace HA:=hA
      clear hA
      have hk18:=HKI.out i hlt
      generalize nj.kids[i]=x at*
      have hk18w:=kf hk18
      clear hk18
      have hlt':(i:Int)<(nj.kids.length:Int):=by omega
      have hnn:(0:Int)≤(i:Int):=by omega
      obtain⟨zn,zr,zt,-⟩:=HA.out.fs
      have yr:=HA.out.fw 1 rfl
      go_wp2_with fail
      replace HA:=HA.out.pN (g:=wr.heap.size) rfl x ax cx
      go_roundg k
      case measure=>exact Nat.lt_succ_self k
      case rel=>exact⟨i+1,by go_num,by omega,by omega,HA.out.pick [1,2,3] [1] (by decide)⟩
     ·obtain rfl:i=nj.kids.length:=by omega
      have hlen:=HLN.out
      clear hlt
      by_cases h1:nj.kids.length=1
      ·obtain⟨x,hks⟩:=List.length_eq_one_iff.1 h1
       have hx0:nj.kids[0]=x:=by simp [hks]
       obtain⟨g0,off0,ax,cx,rfl,hg0,k0,k1,k2,k3,k4,hA⟩:=HA.out.kid 0 rfl hlen
       replace HA:=hA
       clear hA
       simp only [Nat.zero_mul,Nat.add_zero] at k0 k1 k2 k3 k4
       rw [hx0] at*
       have h01: ¬(1:Int)<(nj.kids.length:Int):=by omega
       have h00:(0:Int)<(nj.kids.length:Int):=by omega
       have HKS:=hJ hks
       clear hks hx0 h1
       obtain⟨zn,zr,zt,-⟩:=HA.out.fs
       have yr:=HA.out.fw 1 rfl
       go_wp2_with fail
       have e9:aP8 nj (nj.kids.getLastD .zero)= .mk 26 ⟨#[]⟩ [x] nj.from' nj.till:=by unfold aP8;rw [HKS.out]
       have HT9:=HT.out
       rw [e9] at HT9
       exact HA.out.fin_par 1 0 rfl rfl rfl rfl rfl HT9.symm
      ·obtain⟨x,hx0⟩: ∃x,nj.kids[0]=x:=⟨_,rfl⟩
       obtain⟨y,hy0⟩: ∃y,nj.kids[nj.kids.length - 1]=y:=⟨_,rfl⟩
       obtain⟨g0,off0,ax,cx,rfl,hg0,k0,k1,k2,k3,k4,hA⟩:=HA.out.kid 0 rfl hlen
       replace HA:=hA
       clear hA
       simp only [Nat.zero_mul,Nat.add_zero] at k0 k1 k2 k3 k4
       obtain⟨g1,off1,ay,cy,he,hg1,ky0,ky1,ky2,ky3,ky4,hA⟩:=HA.out.kid 1 rfl (show nj.kids.length - 1<nj.kids.length by omega)
       cases he
       replace HA:=hA
       clear hA ky0 ky1 ky2 ky3
       rw [hy0] at ky4 HA
       rw [hx0] at k0 k1 k2 k3 k4 HA
       have h01:(1:Int)<(nj.kids.length:Int):=by omega
       have h00:(0:Int)<(nj.kids.length:Int):=by omega
       have h00':=hlen
       have hts:((nj.kids.length:Int) - 1).toNat=nj.kids.length - 1:=by omega
       have hts1:(0:Int)≤(nj.kids.length:Int) - 1:=by omega
       have hts2:(nj.kids.length:Int) - 1<(nj.kids.length:Int):=by omega
       have hwr:wrap64 ((nj.kids.length:Int) - 1)=(nj.kids.length:Int) - 1:=IntWalk.wrap64_in _ (by omega)
       have HH1:=hJ h1
       have HX0:=hJ hx0
       have HY0:=hJ hy0
       clear h1 hx0 hy0
       obtain⟨zn,zr,zt,-⟩:=HA.out.fs
       have yr:=HA.out.fw 1 rfl
       go_wp2_with fail
       go_region
       clear zn zr zt yr
       replace HA:=HA.out.same 2 rfl 32 ⟨#[]⟩ x.from' y.till
       replace HA:=HA.out.p5 (g:=wr.heap.size) rfl (.int .i64 32) (.string ⟨#[]⟩) (.slice (some ⟨g0,off0,none⟩) nj.kids.length cnj) (.int .i64 x.from') (.int .i64 y.till) 27
       replace HA:=HA.out.drew
       generalize (World.alloc wr _).drew=w9 at*
       clear k0 k1 k2 k3 k4 ky4 hts hts1 hts2 hwr h01
       obtain⟨zxb,zn,zr,zt,-⟩:=HA.out.fs
       have yr:=HA.out.fw 2 rfl
       go_wp2_with fail
       have HT9:=HT.out
       rw [aT6 HH1.out h00' HX0.out HY0.out] at HT9
       exact HA.out.fin_par1 2 0 rfl rfl rfl rfl rfl HT9.symm
end
end Go.Proofs.YtnobjeelihkjmaaGreatDoor
