/- Steps (Q4 Q5 Q6). Conditions: as stated. -/
import Derived.Test.YtcgbkjhoifhnnaaGreatDoorZe20
import Derived.Test.YtcgbkjhoifhnnaaGreatDoorZe17
set_option maxHeartbeats 4000000
set_option maxRecDepth 100000
namespace Go.Proofs.YtcgbkjhoifhnnaaGreatDoor
section
open Go.RowKit
attribute [local go_sem] ab4 ab5 ab6 ab7 ab8 ab9
attribute [local go_sem ↓] Go.wp_at_zero Go.wp_at_succ
theorem aN8:ba7 165 1:=by
 intro t W
 refine⟨by kernel_rfl,?_⟩
 have hB:=(Below.alloc (Below.refl _ W) (Nat.le_refl _) (.cells #[.int .i64 t.kind,.string t.text,.int .i64 t.from',.int .i64 t.till,.bool t.line] 54))
 go_enter Tryz.func165,Tryz.ntmps165
 go_wp2_with fail
 refine(P.punct t ⟨#[125]⟩ _).mono ?_
 rintro e w2 ⟨rfl,hb⟩
 have HB:=hJ (hB.trans (hb.mono hB.size))
 clear hb
 go_wp2_with fail
 go_ret
 exact⟨by rw [endB,if_neg (by decide),if_pos rfl];rfl,HB.out⟩
theorem C.function1 {E:PE} {R:(x:Fn)→PM x.Out} (hR:Env E R) {pb nb:Nat} :
  CloS E (fun j=>j=nb) [(pb,false,.p E.b),(nb,true,.nb)] (InB E nb) (do
  let _←ab2 E.s 2
  let o←am9 E.s ⟨#[123]⟩
  let kids←R (.statements true false 1)
  let _←af3
  ac7 58 ⟨#[]⟩ o.from' kids) 164 #[.pointer (some ⟨pb,0,none⟩),.pointer (some ⟨nb,0,none⟩)]:=by
 intro F w p h hB hd hne
 obtain⟨T,hT⟩: ∃T,(do
   let _←ab2 E.s 2
   let o←am9 E.s ⟨#[123]⟩
   let kids←R (.statements true false 1)
   let _←af3
   ac7 58 ⟨#[]⟩ o.from' kids) p=T:=⟨_,rfl⟩
 rw [hT] at hne⊢
 have HT:=hJ hT
 have HN:=hJ hne
 have HA:=Sa.start (X:=(fun j=>j=nb)) h [] _ (fun _ h=>by cases h) hB (by simp) hd
 clear h hne hT hB hd
 obtain⟨zpb,znb,-⟩:=HA.out.fs
 have ynb:=HA.out.fw 1 rfl
 go_enter Tryz.func164,Tryz.ntmps164
 go_wp2_with fail
 refine HA.out.stepV HT HN (fun _ h e=>P.peek hR.ok 2 h.s e) ?_ ?_
 ·intro _ _ _ H;go_wp2_with fail;exact⟨rfl,Ans.badh H⟩
 clear zpb znb ynb HT HA
 intro _ q1 w1 HT HA
 obtain⟨zpb,znb,-⟩:=HA.out.fs
 have ynb:=HA.out.fw 1 rfl
 go_wp2_with fail
 refine HA.out.stepV HT HN (fun _ h e=>P.want hR.ok ⟨#[123]⟩ h.s e) ?_ ?_
 ·intro _ _ _ H;go_wp2_with fail;exact⟨rfl,Ans.badh H⟩
 clear zpb znb ynb HT HA
 intro o q2 w2 HT HA
 obtain⟨zpb,znb,-⟩:=HA.out.fs
 have ynb:=HA.out.fw 1 rfl
 go_wp2_with fail
 refine HA.out.stepK HT HN (fun _ h e=>hR.h (.statements true false 1) _ _ _ _ aN8 h.s e) ?_ ?_
 ·intro _ _ _ H;go_wp2_with fail;exact⟨rfl,Ans.badh H⟩
 clear zpb znb ynb HT HA
 intro ks akn ckn q3 w3 HT HA
 obtain⟨zpb,znb,-⟩:=HA.out.fs
 have ynb:=HA.out.fw 1 rfl
 go_wp2_with fail
 refine HA.out.stepV HT HN (fun _ h e=>P.take hR.ok h.s e) ?_ ?_
 ·intro _ _ _ H;go_wp2_with fail;exact⟨rfl,Ans.badh H⟩
 clear zpb znb ynb HT HA
 intro _ q4 w4 HT HA
 obtain⟨zpb,znb,-⟩:=HA.out.fs
 have ynb:=HA.out.fw 1 rfl
 replace HT:=aa5 HT
 go_wp2_with fail
 refine HA.out.nodeK 58 ⟨#[]⟩ o.from' 0 rfl HT ?_
 clear zpb znb ynb HT HA
 intro m am cm w5 _ HT HA
 obtain⟨zpb,znb,-⟩:=HA.out.fs
 have ynb:=HA.out.fw 1 rfl
 go_wp2_with fail
 exact HA.out.fin_cl 1 0 rfl rfl rfl rfl HT.out.symm
theorem S.function {E:PE} {R:(x:Fn)→PM x.Out} (hR:Env E R) {F:Nat→Prop} {w:World} {p:Ps} (h:St E F w p) (hne:an8 E.s R p≠ .out):
  Calls Tryz.prog 130 #[.pointer (some ⟨E.b,0,none⟩)] w (Ans E F X0 w (an8 E.s R p) fun n v w'=>IsP E F w' n v):=by
 obtain⟨T,hT⟩: ∃T,an8 E.s R p=T:=⟨_,rfl⟩
 rw [hT] at hne⊢
 unfold an8 at hT
 have HT:=hJ hT
 have HN:=hJ hne
 have HA:=Sa.start0 (X:=X0) h
 clear h hne hT
 go_enter Tryz.func130,Tryz.ntmps130
 go_wp2_with fail
 replace HT:=aa5 HT
 replace HA:=HA.out.pP (g:=w.heap.size) rfl
 replace HA:=HA.out.pZ (g:=(w.heap.size+1)) (by simp)
 refine HA.out.with hR.ok 1 0 HT HN (fun _=>by kernel_rfl) (C.function1 hR) (.tail _ (.head _)) [1,0] ⟨⟨_,_,rfl,.inl rfl⟩,⟨_,_,rfl,.inr ⟨rfl,_,_,_,_,_,_,_,rfl⟩⟩,trivial⟩ (by decide) 0 rfl ?_ ?_
 ·intro _ _ _ H;go_wp2_with fail;exact⟨rfl,Ans.badh H⟩
 clear HT HA
 intro n an cn q1 w1 HT HA
 dsimp only [ac8] at HA
 obtain⟨zr,zpb,-⟩:=HA.out.fs
 have yr:=HA.out.fw 0 rfl
 go_wp2_with fail
 exact HA.out.fin_nd 0 0 rfl rfl rfl rfl rfl HT.out.symm
end
section
open Go.RowKit
attribute [local go_sem] ab4 ab5 ab6 ab7 ab8 ab9
attribute [local go_sem ↓] Go.wp_at_zero Go.wp_at_succ
theorem P.list0 {E:PE} (hE:E.Ok) {F:Nat→Prop} {w:World} {p:Ps} (closing:ByteArray) (goal:Int) (f:Nat) (k:FuncId) (caps:Array Value) (hk: ∀W,(callFunc k caps).run Tryz.prog W= .ok (.enter k caps) W) (h:St E F w p) (hne:as0 E.s closing goal (fun _:Unit=>outP) f () false p≠ .out) (hg:goal=1∨goal=2:=by decide):
  Calls Tryz.prog 148 #[.pointer (some ⟨E.b,0,none⟩),.string closing,.int .i64 goal,.func (Fn.func k) #[] caps] w (Ans E F X0 w (as0 E.s closing goal (fun _:Unit=>outP) f () false p) fun r v _=>v= .bool r.2):=by
 have hl:=P.list hE closing goal f () hk (A:=fun _ _ _=>True) (X:=X0) (w:=w) (F:=F) (one:=fun _:Unit=>(outP:PM Unit)) (fun _ _ _ _ _ _ _ _ h=>absurd rfl h) (fun _ _ _ _ _ _ _ _=>trivial) trivial h hne hg
 generalize as0 E.s closing goal (fun _:Unit=>(outP:PM Unit)) f () false p=T at hl⊢
 refine hl.mono fun e w' ha=> ?_
 cases T with
 |out=>trivial
 |bad c i=>exact ha
 |ok r q=>
  obtain⟨F2,hF,he,_,hs,hp⟩:=ha
  exact⟨_,he,rfl,hs.weak hF,hp⟩
theorem S.formals {E:PE} {R:(x:Fn)→PM x.Out} (hR:Env E R) {F:Nat→Prop} {w:World} {p:Ps} (f:Nat) (of:ByteArray) (h:St E F w p) (hne:aq7 E.s f of p≠ .out):
  Calls Tryz.prog 183 #[.pointer (some ⟨E.b,0,none⟩),.string of] w (Ans E F X0 w (aq7 E.s f of p) fun n v w'=>IsP E F w' n v):=by
 obtain⟨T,hT⟩: ∃T,aq7 E.s f of p=T:=⟨_,rfl⟩
 rw [hT] at hne⊢
 unfold aq7 at hT
 by_cases ho:of≠⟨#[]⟩
 ·rw [if_pos ho] at hT
  exact absurd hT.symm hne
 rw [if_neg ho] at hT
 have ho2:of=⟨#[]⟩:=Decidable.byContradiction ho
 clear ho
 subst ho2
 have HT:=hJ hT
 have HN:=hJ hne
 have HA:=Sa.start0 (X:=X0) h
 clear h hne hT
 go_enter Tryz.func183,Tryz.ntmps183
 go_wp2_with fail
 replace HA:=HA.out.pP (g:=w.heap.size) rfl
 replace HA:=HA.out.p1 (g:=(w.heap.size+1)) (by simp) (.string ⟨#[]⟩) 9
 replace HA:=HA.out.pZ (g:=(w.heap.size+2)) (by simp)
 refine HA.out.stepV HT HN (fun _ h e=>P.want hR.ok ⟨#[40]⟩ h.s e) ?_ ?_
 ·intro _ _ _ H;go_wp2_with fail;exact⟨rfl,Ans.badh H⟩
 clear HT HA
 intro o q1 w1 HT HA
 obtain⟨zr,zob,zpb,-⟩:=HA.out.fs
 have yr:=HA.out.fw 0 rfl
 go_wp2_with fail
 replace HA:=HA.out.p1 (g:=w1.heap.size) rfl (.slice none 0 0) 24
 refine HA.out.stepV HT HN (fun _ h e=>P.list0 hR.ok ⟨#[41]⟩ 1 f _ _ (fun _=>by kernel_rfl) h.s e) ?_ ?_
 ·intro _ _ _ H;go_wp2_with fail;exact⟨rfl,Ans.badh H⟩
 clear zr zob zpb yr HT HA
 intro rr q2 w2 HT HA
 obtain⟨zkb,zr,zob,zpb,-⟩:=HA.out.fs
 have yr:=HA.out.fw 1 rfl
 go_wp2_with fail
 refine HA.out.node0 21 ⟨#[]⟩ o.from' HT ?_
 clear zkb zr zob zpb yr HT HA
 intro k ak ck w3 _ HT HA
 obtain⟨zkb,zr,zob,zpb,-⟩:=HA.out.fs
 have yr:=HA.out.fw 1 rfl
 go_wp2_with fail
 exact HA.out.fin_nd 1 0 rfl rfl rfl rfl rfl HT.out.symm
end
section
open Go.RowKit
attribute [local go_sem] ab4 ab5 ab6 ab7 ab8 ab9
attribute [local go_sem ↓] Go.wp_at_zero Go.wp_at_succ
theorem Sa.addk {E:PE} {F0 X:Nat→Prop} {w0 w:World} {q:Ps} {bs:List Box} {ns:List Kd} {ro:Option (Value × List Kd)} (h:Sa E F0 X w0 w q bs ns ro) (n:Nd) (a:Option Addr) (c:Nat) (hk:n.kids= []):Sa E F0 X w0 w q bs ((n,a,c)::ns) ro:=by
 obtain⟨F,h⟩:=h
 refine⟨F,h.node ⟨a,c,rfl,by rw [hk];exact Nat.zero_le _,?_⟩⟩
 rw [hk]
 exact at7 _ _ _ _
theorem C.callable1 {E:PE} {R:(x:Fn)→PM x.Out} (hR:Env E R) (text:ByteArray) (from':Int) (id:Nd) (aid:Option Addr) (cid:Nat) (hk0:id.kids= []) {pb ob xb fb ib nb:Nat} :
  CloS E (fun j=>j=nb) [(pb,false,.p E.b),(ob,false,.c1 (.string ⟨#[]⟩) 9),(xb,false,.c1 (.string text) 9),(fb,false,.c1 (.int .i64 from') 3),(ib,false,.nd id aid cid),(nb,true,.nb)] (InB E nb) (do
  let params←R (.formals ⟨#[]⟩)
  let body←R .function
  ac7 19 text from' [id,params,body]) 182 #[.pointer (some ⟨pb,0,none⟩),.pointer (some ⟨ob,0,none⟩),.pointer (some ⟨xb,0,none⟩),.pointer (some ⟨fb,0,none⟩),.pointer (some ⟨ib,0,none⟩),.pointer (some ⟨nb,0,none⟩)]:=by
 intro F w p h hB hd hne
 obtain⟨T,hT⟩: ∃T,(do
   let params←R (.formals ⟨#[]⟩)
   let body←R .function
   ac7 19 text from' [id,params,body]) p=T:=⟨_,rfl⟩
 rw [hT] at hne⊢
 have HT:=hJ hT
 have HN:=hJ hne
 have HA:=Sa.start (X:=(fun j=>j=nb)) h [] _ (fun _ h=>by cases h) hB (by simp) hd
 clear h hne hT hB hd
 replace HA:=hJ (Sa.addk HA.out id aid cid hk0)
 clear hk0
 obtain⟨zpb,zob,zxb,zfb,zib,znb,-⟩:=HA.out.fs
 have ynb:=HA.out.fw 5 rfl
 go_enter Tryz.func182,Tryz.ntmps182
 go_wp2_with fail
 refine HA.out.stepN HT HN (fun _ h e=>hR.h (.formals ⟨#[]⟩) _ _ _ h.s e) ?_ ?_
 ·intro _ _ _ H;go_wp2_with fail;exact⟨rfl,Ans.badh H⟩
 clear zpb zob zxb zfb zib znb ynb HT HA
 intro ps aps cps q1 w1 HT HA
 obtain⟨zpb,zob,zxb,zfb,zib,znb,-⟩:=HA.out.fs
 have ynb:=HA.out.fw 5 rfl
 go_wp2_with fail
 replace HA:=HA.out.pN (g:=w1.heap.size) rfl ps aps cps
 refine HA.out.stepN HT HN (fun _ h e=>hR.h .function _ _ _ h.s e) ?_ ?_
 ·intro _ _ _ H;go_wp2_with fail;exact⟨rfl,Ans.badh H⟩
 clear zpb zob zxb zfb zib znb ynb HT HA
 intro bd abd cbd q2 w2 HT HA
 obtain⟨zps,zpb,zob,zxb,zfb,zib,znb,-⟩:=HA.out.fs
 have ynb:=HA.out.fw 6 rfl
 replace HT:=aa5 HT
 go_wp2_with fail
 replace HA:=HA.out.pN (g:=w2.heap.size) rfl bd abd cbd
 refine HA.out.node 19 text from' [(id,aid,cid),(ps,aps,cps),(bd,abd,cbd)] (by simp) rfl (by simp) rfl rfl HT ?_
 clear zps zpb zob zxb zfb zib znb ynb HT HA
 intro m am cm w3 _ HT HA
 obtain⟨zbd,zps,zpb,zob,zxb,zfb,zib,znb,-⟩:=HA.out.fs
 have ynb:=HA.out.fw 7 rfl
 go_wp2_with fail
 exact HA.out.fin_cl 7 0 rfl rfl rfl rfl HT.out.symm
theorem S.callableG {E:PE} {R:(x:Fn)→PM x.Out} (hR:Env E R) {F:Nat→Prop} {w:World} {p:Ps} (from':Int) (id:Nd) (v:Value) (hn:IsP E F w id v) (hk0:id.kids= []) (h:St E F w p) (hne:an0 3 6 (do
  let params←R (.formals ⟨#[]⟩)
  let body←R .function
  ac7 19 ⟨#[42]⟩ from' [id,params,body]) p≠ .out):
  Calls Tryz.prog 155 #[.pointer (some ⟨E.b,0,none⟩),.string ⟨#[42]⟩,.int .i64 from',v,.string ⟨#[]⟩] w (Ans E F X0 w (an0 3 6 (do
  let params←R (.formals ⟨#[]⟩)
  let body←R .function
  ac7 19 ⟨#[42]⟩ from' [id,params,body]) p) fun n v w'=>IsP E F w' n v):=by
 obtain⟨T,hT⟩: ∃T,an0 3 6 (do
   let params←R (.formals ⟨#[]⟩)
   let body←R .function
   ac7 19 ⟨#[42]⟩ from' [id,params,body]) p=T:=⟨_,rfl⟩
 rw [hT] at hne⊢
 have HK0:=hJ hk0
 clear hk0
 have HT:=hJ hT
 have HN:=hJ hne
 obtain⟨aid,cid,rfl,hn0⟩:=hn.form
 have HA:=Sa.start1 (X:=X0) h hn0
 clear h hne hT hn hn0
 go_enter Tryz.func155,Tryz.ntmps155
 go_wp2_with fail
 replace HT:=aa5 HT
 replace HA:=HA.out.pP (g:=w.heap.size) rfl
 replace HA:=HA.out.p1 (g:=(w.heap.size+1)) (by simp) (.string ⟨#[42]⟩) 9
 replace HA:=HA.out.p1 (g:=(w.heap.size+2)) (by simp) (.int .i64 from') 3
 replace HA:=HA.out.pN (g:=(w.heap.size+3)) (by simp) id aid cid
 replace HA:=HA.out.p1 (g:=(w.heap.size+4)) (by simp) (.string ⟨#[]⟩) 9
 replace HA:=HA.out.pZ (g:=(w.heap.size+5)) (by simp)
 refine HA.out.with hR.ok 3 6 HT HN (fun _=>by kernel_rfl) (C.callable1 hR ⟨#[42]⟩ from' id aid cid HK0.out) (.tail _ (.tail _ (.tail _ (.tail _ (.tail _ (.head _)))))) [5,1,4,3,2,0] ⟨⟨_,_,rfl,.inl rfl⟩,⟨_,_,rfl,.inl rfl⟩,⟨_,_,rfl,.inl rfl⟩,⟨_,_,rfl,.inl rfl⟩,⟨_,_,rfl,.inl rfl⟩,⟨_,_,rfl,.inr ⟨rfl,_,_,_,_,_,_,_,rfl⟩⟩,trivial⟩ (by decide) 0 rfl ?_ ?_
 ·intro _ _ _ H;go_wp2_with fail;exact⟨rfl,Ans.badh H⟩
 clear HT HA
 intro n an cn q1 w1 HT HA
 dsimp only [ac8] at HA
 obtain⟨zr,zob,zib,zfb,zxb,zpb,-⟩:=HA.out.fs
 have yr:=HA.out.fw 0 rfl
 go_wp2_with fail
 exact HA.out.fin_nd 0 0 rfl rfl rfl rfl rfl HT.out.symm
theorem S.callableF {E:PE} {R:(x:Fn)→PM x.Out} (hR:Env E R) {F:Nat→Prop} {w:World} {p:Ps} (from':Int) (id:Nd) (v:Value) (hn:IsP E F w id v) (hk0:id.kids= []) (h:St E F w p) (hne:an0 1 6 (do
  let params←R (.formals ⟨#[]⟩)
  let body←R .function
  ac7 19 ⟨#[]⟩ from' [id,params,body]) p≠ .out):
  Calls Tryz.prog 155 #[.pointer (some ⟨E.b,0,none⟩),.string ⟨#[]⟩,.int .i64 from',v,.string ⟨#[]⟩] w (Ans E F X0 w (an0 1 6 (do
  let params←R (.formals ⟨#[]⟩)
  let body←R .function
  ac7 19 ⟨#[]⟩ from' [id,params,body]) p) fun n v w'=>IsP E F w' n v):=by
 obtain⟨T,hT⟩: ∃T,an0 1 6 (do
   let params←R (.formals ⟨#[]⟩)
   let body←R .function
   ac7 19 ⟨#[]⟩ from' [id,params,body]) p=T:=⟨_,rfl⟩
 rw [hT] at hne⊢
 have HK0:=hJ hk0
 clear hk0
 have HT:=hJ hT
 have HN:=hJ hne
 obtain⟨aid,cid,rfl,hn0⟩:=hn.form
 have HA:=Sa.start1 (X:=X0) h hn0
 clear h hne hT hn hn0
 go_enter Tryz.func155,Tryz.ntmps155
 go_wp2_with fail
 replace HT:=aa5 HT
 replace HA:=HA.out.pP (g:=w.heap.size) rfl
 replace HA:=HA.out.p1 (g:=(w.heap.size+1)) (by simp) (.string ⟨#[]⟩) 9
 replace HA:=HA.out.p1 (g:=(w.heap.size+2)) (by simp) (.int .i64 from') 3
 replace HA:=HA.out.pN (g:=(w.heap.size+3)) (by simp) id aid cid
 replace HA:=HA.out.p1 (g:=(w.heap.size+4)) (by simp) (.string ⟨#[]⟩) 9
 replace HA:=HA.out.pZ (g:=(w.heap.size+5)) (by simp)
 refine HA.out.with hR.ok 1 6 HT HN (fun _=>by kernel_rfl) (C.callable1 hR ⟨#[]⟩ from' id aid cid HK0.out) (.tail _ (.tail _ (.tail _ (.tail _ (.tail _ (.head _)))))) [5,1,4,3,2,0] ⟨⟨_,_,rfl,.inl rfl⟩,⟨_,_,rfl,.inl rfl⟩,⟨_,_,rfl,.inl rfl⟩,⟨_,_,rfl,.inl rfl⟩,⟨_,_,rfl,.inl rfl⟩,⟨_,_,rfl,.inr ⟨rfl,_,_,_,_,_,_,_,rfl⟩⟩,trivial⟩ (by decide) 0 rfl ?_ ?_
 ·intro _ _ _ H;go_wp2_with fail;exact⟨rfl,Ans.badh H⟩
 clear HT HA
 intro n an cn q1 w1 HT HA
 dsimp only [ac8] at HA
 obtain⟨zr,zob,zib,zfb,zxb,zpb,-⟩:=HA.out.fs
 have yr:=HA.out.fw 0 rfl
 go_wp2_with fail
 exact HA.out.fin_nd 0 0 rfl rfl rfl rfl rfl HT.out.symm
theorem S.callable {E:PE} {R:(x:Fn)→PM x.Out} (hR:Env E R) {F:Nat→Prop} {w:World} {p:Ps} (text:ByteArray) (from':Int) (id:Nd) (of:ByteArray) (v:Value) (hn:IsP E F w id v) (h:St E F w p) (hne:ai5 R text from' id of p≠ .out):
  Calls Tryz.prog 155 #[.pointer (some ⟨E.b,0,none⟩),.string text,.int .i64 from',v,.string of] w (Ans E F X0 w (ai5 R text from' id of p) fun n v w'=>IsP E F w' n v):=by
 have e: ∀x,ai5 R text from' id of=x→ai5 R text from' id of p=x p:=fun x h=>by rw [h]
 by_cases ho:of≠⟨#[]⟩∨id.kids≠ []
 ·exact absurd (e _ (if_pos ho)) hne
 have ho2:of=⟨#[]⟩:=Decidable.byContradiction fun h=>ho (.inl h)
 have hk0:id.kids= []:=Decidable.byContradiction fun h=>ho (.inr h)
 by_cases h1:text=⟨#[42]⟩
 ·have e2:=e _ (show _=_ by unfold ai5;rw [if_neg ho,if_pos h1])
  rw [e2] at hne⊢
  subst h1 ho2
  exact S.callableG hR from' id v hn hk0 h hne
 by_cases h2:text=⟨#[]⟩
 ·have e2:=e _ (show _=_ by unfold ai5;rw [if_neg ho,if_neg h1,if_pos h2])
  rw [e2] at hne⊢
  subst h2 ho2
  exact S.callableF hR from' id v hn hk0 h hne
 ·exact absurd (e _ (show _=_ by unfold ai5;rw [if_neg ho,if_neg h1,if_neg h2])) hne
end
end Go.Proofs.YtcgbkjhoifhnnaaGreatDoor
