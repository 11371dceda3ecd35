/- Steps (Qo). Conditions: as stated. -/
import Derived.Test.YtnobjeelihkjmaaGreatDoorZk18
set_option maxHeartbeats 4000000
set_option maxRecDepth 100000
namespace Go.Proofs.YtnobjeelihkjmaaGreatDoor
section
open Go.RowKit
attribute [local go_sem] ab3 ab4 ab5 ab6 ab7 ab8
attribute [local go_sem ↓] Go.wp_at_zero Go.wp_at_succ
def StR (E:PE) (R:(x:Fn)→PM x.Out) (top:Bool) (e:Nat) (f:Nat) (F:Nat→Prop) (w:World) (gp gu:Nat) (T:Res (List Nd)) (k:Nat) (d u:Value) (wr:World):Prop:=
 ∃(l:List Kd) (q:Ps) (dir:Bool),d= .bool dir∧l.length+k≤f∧Hid (ag3.partL E.s R top e k dir (l.map (·.1)) q=T)∧Hid (Sa E F X0 w wr q [(gp,true,.p E.b),(gu,true,.c1 (.bool top) 4)] [] (some (u,l)))
theorem C.statements1 {E:PE} {R:(x:Fn)→PM x.Out} (hR:Env E R) (t:Tk) (top:Bool) {pb tb ub nb:Nat} :
  CloS E (fun j=>j=nb) [(pb,false,.p E.b),(tb,false,.tk t),(ub,false,.c1 (.bool top) 4),(nb,true,.nb)] (InB E nb) (do
  let m←R (.modular t top)
  if m.kind=0 then R (.statement t true) else return m) 75 #[.pointer (some ⟨pb,0,none⟩),.pointer (some ⟨tb,0,none⟩),.pointer (some ⟨ub,0,none⟩),.pointer (some ⟨nb,0,none⟩)]:=by
 intro F w p h hB hd hne
 obtain⟨T,hT⟩: ∃T,(do
   let m←R (.modular t top)
   if m.kind=0 then R (.statement t true) else return m) p=T:=⟨_,rfl⟩
 rw [hT] at hne⊢
 have HT:=hJ hT
 have HN:=hJ hne
 have HA:=Sa.start (X:=(fun j=>j=nb)) h [] _ (fun _ h=>by cases h) hB (by simp) hd
 clear h hne hT hB hd
 obtain⟨zpb,ztb,zub,znb,-⟩:=HA.out.fs
 have ynb:=HA.out.fw 3 rfl
 go_enter Tryz.func75,Tryz.ntmps75
 go_wp2_with fail
 refine HA.out.stepN HT HN (fun _ h e=>hR.h (.modular t top) _ _ _ h.s e) ?_ ?_
 ·intro _ _ _ H;go_wp2_with fail;exact⟨rfl,Ans.badh H⟩
 clear zpb ztb zub znb ynb HT HA
 intro m am cm q1 w1 HT HA
 obtain⟨zpb,ztb,zub,znb,-⟩:=HA.out.fs
 have ynb:=HA.out.fw 3 rfl
 go_upto_region 1 with fail
 replace HA:=HA.out.setN 3 0 rfl rfl rfl
 clear zpb ztb zub znb ynb
 obtain⟨w2,e8,HA⟩:=HA
 rw [e8]
 clear e8
 dsimp only [ae4] at HA
 obtain⟨zpb,ztb,zub,znb,-⟩:=HA.out.fs
 have ynb:=HA.out.fw 3 rfl
 by_cases hk0:m.kind=0
 ·have hk0w:=kt hk0
  replace HT:=hpos HT (by exact hk0)
  have hk0':=hJ hk0
  clear hk0
  go_wp2_with fail
  replace HT:=ac9 HT
  refine HA.out.stepN HT HN (fun _ h e=>hR.h (.statement t true) _ _ _ h.s e) ?_ ?_
  ·intro _ _ _ H;go_wp2_with fail;exact⟨rfl,Ans.badh H⟩
  clear zpb ztb zub znb ynb HT HA
  intro n an cn q3 w3 HT HA
  obtain⟨zpb,ztb,zub,znb,-⟩:=HA.out.fs
  have ynb:=HA.out.fw 3 rfl
  go_wp2_with fail
  exact HA.out.fin_cl 3 0 rfl rfl rfl rfl HT.out.symm
 ·have hk0w:=kf hk0
  replace HT:=hneg HT (by exact hk0)
  have hk0':=hJ hk0
  clear hk0
  go_wp2_with fail
  exact HA.out.fin_cl0 3 0 rfl rfl rfl HT.out.symm
theorem S.statements {E:PE} {R:(x:Fn)→PM x.Out} (hR:Env E R) {F:Nat→Prop} {w:World} {p:Ps} (f:Nat) (hf:f≤1073741824) (dir top:Bool) (e:Nat) {k0:FuncId} (hend:bh8 k0 e) (h:St E F w p) (hne:ag3 E.s f R dir top e p≠ .out):
  Calls Tryz.prog 43 #[.pointer (some ⟨E.b,0,none⟩),.bool dir,.bool top,.func (Fn.func k0) #[] #[]] w (Ans E F X0 w (ag3 E.s f R dir top e p) fun ks v w'=>KsIn E F w' ks v):=by
 obtain⟨T,hT⟩: ∃T,ag3 E.s f R dir top e p=T:=⟨_,rfl⟩
 rw [hT] at hne⊢
 unfold ag3 at hT
 have HT:=hJ hT
 have HN:=hJ hne
 have HA:=Sa.start0 (X:=X0) h
 clear h hne hT
 go_enter Tryz.func43,Tryz.ntmps43
 go_wp2_with fail
 replace HA:=HA.out.pP (g:=w.heap.size) rfl
 replace HA:=HA.out.p1 (g:=(w.heap.size+1)) (by simp) (.bool top) 4
 replace HA:=HA.out.row0
 go_loopg [1,9] f (fun k d u wr=>StR E R top e f F w w.heap.size (w.heap.size+1) T k d u wr)
 case atStart=>exact⟨[],_,dir,rfl,by simp,HT,HA.out.pick [1,0] [] (by decide)⟩
 case round=>
  clear HT HA
  obtain⟨lk,q,dr,rfl,hlen,HT,HA⟩:=hrel
  cases gk with
  |zero=>exact absurd HT.out.symm HN.out
  |succ k=>
   unfold ag3.partL at HT
   obtain⟨sa,sc,rfl⟩:=HA.out.rowform
   obtain⟨zpb,zub,-⟩:=HA.out.fs
   go_wp2_with fail
   refine HA.out.stepV HT HN (fun _ h e=>P.peek hR.ok 2 h.s e) ?_ ?_
   ·intro _ _ _ H;go_wp2_with fail;exact⟨rfl,Ans.badh H⟩
   clear zpb zub HT HA
   intro t q1 w1 HT HA
   obtain⟨zpb,zub,-⟩:=HA.out.fs
   have hent:=fun W=>(hend t W).1
   go_wp2_with fail
   replace HA:=HA.out.pT (g:=w1.heap.size) rfl t
   refine HA.out.stepQ (fun _ h=>(hend t _).2) ?_
   clear zpb zub HA
   intro w2 HA
   obtain⟨zt,zpb,zub,-⟩:=HA.out.fs
   cases he:endB e t with
   |true=>
    replace HT:=hpos HT (by exact he)
    go_wp2_with fail
    exact HA.out.fin_ks rfl rfl HT.out.symm
   |false=>
    replace HT:=hneg HT (by rw [he];decide)
    go_wp2_with fail
    replace HA:=HA.out.pZ (g:=w2.heap.size) rfl
    refine HA.out.deeper hR.ok t.from' HT HN (fun _=>by kernel_rfl) (C.statements1 hR t top) (.tail _ (.tail _ (.tail _ (.head _)))) [2,1,3,0] ⟨⟨_,_,rfl,.inl rfl⟩,⟨_,_,rfl,.inl rfl⟩,⟨_,_,rfl,.inl rfl⟩,⟨_,_,rfl,.inr ⟨rfl,_,_,_,_,_,_,_,rfl⟩⟩,trivial⟩ (by decide) 0 rfl ?_ ?_
    ·intro _ _ _ H;go_wp2_with fail;exact⟨rfl,Ans.badh H⟩
    clear zt zpb zub HT HA
    intro n an cn q3 w3 HT HA
    dsimp only [ae4] at HA
    obtain⟨zn,zt,zpb,zub,-⟩:=HA.out.fs
    cases dr with
    |true=>
     by_cases hk57:n.kind=57
     ·have hk57w:=kt hk57
      have e57:decide (n.kind=57)=true:=decide_eq_true hk57
      have hk57':=hJ hk57
      clear hk57
      replace HT:=hpos HT (by rw [e57];rfl)
      cases hkk:n.kids with
      |nil=>
       rw [hkk] at HT
       exact absurd HT.out.symm HN.out
      |cons x xs=>
       have hl0:0<n.kids.length:=by rw [hkk];simp
       have hx0:n.kids[0]=x:=by simp [hkk]
       rw [hkk] at HT
       have hk2:Hid ((if x.kind=4 then outP else ag3.partL E.s R top e k false (lk.map (·.1)++ [n])) _=T):=HT
       replace HT:=hk2
       clear hk2
       obtain⟨g0,off0,b0,c0,ha0,hg0,hc0,_,_,_,_,_⟩:=HA.out.kid 0 rfl hl0
       rw [hx0] at hc0
       rw [show off0+0*5=off0 by omega] at hc0
       clear hx0
       have hl0':(0:Int)<(n.kids.length:Int):=by omega
       have HKK:=hJ hkk
       clear hkk
       obtain⟨xk,hxk⟩: ∃xk,x.kind=xk:=⟨_,rfl⟩
       rw [hxk] at hc0 HT
       clear hxk
       by_cases hk4:xk=4
       ·have hk4w:=kt hk4
        replace HT:=hpos HT (by exact hk4)
        exact absurd HT.out.symm HN.out
       ·have hk4w:=kf hk4
        replace HT:=hneg HT (by exact hk4)
        have hk4':=hJ hk4
        clear hk4
        go_upto_region 10 with fail
        clear ha0
        go_wp2_with (at_builtin;refine aK2 (by rfl) _ _ _ (by rfl) (by kernel_rfl) ak2 HA.out 0 rfl (by rfl) (g:=w3.heap.size) rfl (by rfl) rfl (by omega) ?_;clear zn zt zpb zub HA;intro rr rc w4 HA)
        go_roundg k
        case measure=>exact Nat.lt_succ_self k
        case rel=>exact⟨lk++ [(n,an,cn)],_,false,rfl,by simp;omega,by rw [List.map_append];exact HT,HA.out.pick [2,3] [] (by decide)⟩
     ·have hk57w:=kf hk57
      have e57:decide (n.kind=57)=false:=decide_eq_false hk57
      have hk57':=hJ hk57
      clear hk57
      replace HT:=hneg HT (by rw [e57];decide)
      go_upto_region 10 with fail
      go_wp2_with (at_builtin;refine aK2 (by rfl) _ _ _ (by rfl) (by kernel_rfl) ak2 HA.out 0 rfl (by rfl) (g:=w3.heap.size) rfl (by rfl) rfl (by omega) ?_;clear zn zt zpb zub HA;intro rr rc w4 HA)
      go_roundg k
      case measure=>exact Nat.lt_succ_self k
      case rel=>exact⟨lk++ [(n,an,cn)],_,false,rfl,by simp;omega,by rw [List.map_append];exact HT,HA.out.pick [2,3] [] (by decide)⟩
    |false=>
     replace HT:=hneg HT (by rw [Bool.false_and];decide)
     go_upto_region 10 with fail
     go_wp2_with (at_builtin;refine aK2 (by rfl) _ _ _ (by rfl) (by kernel_rfl) ak2 HA.out 0 rfl (by rfl) (g:=w3.heap.size) rfl (by rfl) rfl (by omega) ?_;clear zn zt zpb zub HA;intro rr rc w4 HA)
     go_roundg k
     case measure=>exact Nat.lt_succ_self k
     case rel=>exact⟨lk++ [(n,an,cn)],_,false,rfl,by simp;omega,by rw [List.map_append];exact HT,HA.out.pick [2,3] [] (by decide)⟩
theorem bL9 {t:ByteArray} (h:ao0 t kwW=false): ∀x ∈ kwW,t≠x:=by
 intro x hx e
 have:ao0 t kwW=true:=List.any_eq_true.2 ⟨x,hx,decide_eq_true e⟩
 rw [h] at this
 cases this
theorem S.statement {E:PE} {R:(x:Fn)→PM x.Out} (hR:Env E R) {F:Nat→Prop} {w:World} {p:Ps} (t:Tk) (list:Bool) (h:St E F w p) (hne:ao5 E.s E.m R t list p≠ .out):
  Calls Tryz.prog 77 #[.pointer (some ⟨E.b,0,none⟩),.agg #[.int .i64 t.kind,.string t.text,.int .i64 t.from',.int .i64 t.till,.bool t.line],.bool list] w (Ans E F X0 w (ao5 E.s E.m R t list p) fun n v w'=>IsP E F w' n v):=by
 obtain⟨T,hT⟩: ∃T,ao5 E.s E.m R t list p=T:=⟨_,rfl⟩
 rw [hT] at hne⊢
 unfold ao5 at hT
 have HT:=hJ hT
 have HN:=hJ hne
 have HA:=Sa.start0 (X:=X0) h
 clear h hne hT
 cases list with
 |true=>
  replace HT:=hneg HT (by decide)
  go_enter Tryz.func77,Tryz.ntmps77
  go_wp2_with fail
  replace HA:=HA.out.pT (g:=w.heap.size) rfl t
  replace HA:=HA.out.pZ (g:=(w.heap.size+1)) (by simp)
  refine HA.out.stepQ (fun _ h=>P.punct t ⟨#[123]⟩ _) ?_
  clear HA
  intro w1 HA
  obtain⟨zr,zt,-⟩:=HA.out.fs
  have yr:=HA.out.fw 0 rfl
  cases d0:aa2 t ⟨#[123]⟩ with
  |true=>
   replace HT:=hpos HT (by exact d0)
   replace HT:=ac9 HT
   go_wp2_with fail
   refine HA.out.stepN HT HN (fun _ h e=>hR.h .block _ _ _ h.s e) ?_ ?_
   ·intro _ _ _ H;go_wp2_with fail;exact⟨rfl,Ans.badh H⟩
   clear zr zt yr HT HA
   intro z az cz q2 w2 HT HA
   obtain⟨zr,zt,-⟩:=HA.out.fs
   have yr:=HA.out.fw 0 rfl
   go_wp2_with fail
   exact HA.out.fin_nd 0 0 rfl rfl rfl rfl rfl HT.out.symm
  |false=>
   replace HT:=hneg HT (by rw [d0];decide)
   go_wp2_with fail
   refine HA.out.stepQ (fun _ h=>P.punct t ⟨#[59]⟩ _) ?_
   clear zr zt yr HA
   intro w2 HA
   obtain⟨zr,zt,-⟩:=HA.out.fs
   have yr:=HA.out.fw 0 rfl
   cases d1:aa2 t ⟨#[59]⟩ with
   |true=>
    replace HT:=hpos HT (by exact d1)
    go_wp2_with fail
    refine HA.out.stepV HT HN (fun _ h e=>P.take hR.ok h.s e) ?_ ?_
    ·intro _ _ _ H;go_wp2_with fail;exact⟨rfl,Ans.badh H⟩
    clear zr zt yr HT HA
    intro _ q3 w3 HT HA
    obtain⟨zr,zt,-⟩:=HA.out.fs
    have yr:=HA.out.fw 0 rfl
    replace HT:=ac9 HT
    go_wp2_with fail
    refine HA.out.node0 59 ⟨#[]⟩ t.from' HT ?_
    clear zr zt yr HT HA
    intro z az cz w4 _ HT HA
    obtain⟨zr,zt,-⟩:=HA.out.fs
    have yr:=HA.out.fw 0 rfl
    go_wp2_with fail
    exact HA.out.fin_nd 0 0 rfl rfl rfl rfl rfl HT.out.symm
   |false=>
    replace HT:=hneg HT (by rw [d1];decide)
    by_cases hk1:t.kind=1
    ·have hk1w:=nf hk1
     replace HT:=hneg HT (by exact fun h=>h hk1)
     have hk1':=hJ hk1
     clear hk1
     cases ho:ao0 t.text kwW with
     |true=>
      replace HT:=hpos HT (by exact ho)
      exact absurd HT.out.symm HN.out
     |false=>
      replace HT:=hneg HT (by rw [ho];decide)
      have hno:=bL9 ho
      clear ho
      have hw0:(t.text.toList== [97,115,121,110,99])=false:=by rw [bt];exact decide_eq_false (hno _ (by unfold kwW;simp))
      have hw1:(t.text.toList== [118,97,114])=false:=by rw [bt];exact decide_eq_false (hno _ (by unfold kwW;simp))
      have hw2:(t.text.toList== [108,101,116])=false:=by rw [bt];exact decide_eq_false (hno _ (by unfold kwW;simp))
      have hw3:(t.text.toList== [99,111,110,115,116])=false:=by rw [bt];exact decide_eq_false (hno _ (by unfold kwW;simp))
      have hw4:(t.text.toList== [102,117,110,99,116,105,111,110])=false:=by rw [bt];exact decide_eq_false (hno _ (by unfold kwW;simp))
      have hw5:(t.text.toList== [99,108,97,115,115])=false:=by rw [bt];exact decide_eq_false (hno _ (by unfold kwW;simp))
      have hw6:(t.text.toList== [105,102])=false:=by rw [bt];exact decide_eq_false (hno _ (by unfold kwW;simp))
      have hw7:(t.text.toList== [102,111,114])=false:=by rw [bt];exact decide_eq_false (hno _ (by unfold kwW;simp))
      have hw8:(t.text.toList== [119,104,105,108,101])=false:=by rw [bt];exact decide_eq_false (hno _ (by unfold kwW;simp))
      have hw9:(t.text.toList== [100,111])=false:=by rw [bt];exact decide_eq_false (hno _ (by unfold kwW;simp))
      have hw10:(t.text.toList== [114,101,116,117,114,110])=false:=by rw [bt];exact decide_eq_false (hno _ (by unfold kwW;simp))
      have hw11:(t.text.toList== [98,114,101,97,107])=false:=by rw [bt];exact decide_eq_false (hno _ (by unfold kwW;simp))
      have hw12:(t.text.toList== [99,111,110,116,105,110,117,101])=false:=by rw [bt];exact decide_eq_false (hno _ (by unfold kwW;simp))
      have hw13:(t.text.toList== [116,104,114,111,119])=false:=by rw [bt];exact decide_eq_false (hno _ (by unfold kwW;simp))
      have hw14:(t.text.toList== [116,114,121])=false:=by rw [bt];exact decide_eq_false (hno _ (by unfold kwW;simp))
      have hw15:(t.text.toList== [115,119,105,116,99,104])=false:=by rw [bt];exact decide_eq_false (hno _ (by unfold kwW;simp))
      have hw16:(t.text.toList== [100,101,98,117,103,103,101,114])=false:=by rw [bt];exact decide_eq_false (hno _ (by unfold kwW;simp))
      clear hno
      go_wp2_with fail
      refine HA.out.look hR.ok t.till HT HN ?_
      clear zr zt yr HT HA
      intro nx w3 HT HA
      obtain⟨zr,zt,-⟩:=HA.out.fs
      have yr:=HA.out.fw 0 rfl
      replace HT:=hget HT
      go_wp2_with fail
      replace HA:=HA.out.pT (g:=w3.heap.size) rfl nx
      refine HA.out.stepQ (fun _ h=>P.ident t h.s) ?_
      clear zr zt yr HA
      intro w4 HA
      obtain⟨znx,zr,zt,-⟩:=HA.out.fs
      have yr:=HA.out.fw 1 rfl
      cases hi:am4 E.m p.flags t with
      |true=>
       go_wp2_with fail
       refine HA.out.stepQ (fun _ h=>P.punct nx ⟨#[58]⟩ _) ?_
       clear znx zr zt yr HA
       intro w5 HA
       obtain⟨znx,zr,zt,-⟩:=HA.out.fs
       have yr:=HA.out.fw 1 rfl
       cases hc:aa2 nx ⟨#[58]⟩ with
       |true=>
        replace HT:=hpos HT (by rw [hi,hc];rfl)
        go_wp2_with fail
        refine HA.out.stepV HT HN (fun _ h e=>P.take hR.ok h.s e) ?_ ?_
        ·intro _ _ _ H;go_wp2_with fail;exact⟨rfl,Ans.badh H⟩
        clear znx zr zt yr HT HA
        intro _ q6 w6 HT HA
        obtain⟨znx,zr,zt,-⟩:=HA.out.fs
        have yr:=HA.out.fw 1 rfl
        go_wp2_with fail
        refine HA.out.stepV HT HN (fun _ h e=>P.want hR.ok ⟨#[58]⟩ h.s e) ?_ ?_
        ·intro _ _ _ H;go_wp2_with fail;exact⟨rfl,Ans.badh H⟩
        clear znx zr zt yr HT HA
        intro _ q7 w7 HT HA
        obtain⟨znx,zr,zt,-⟩:=HA.out.fs
        have yr:=HA.out.fw 1 rfl
        go_wp2_with fail
        refine HA.out.stepN HT HN (fun _ h e=>hR.h .alone _ _ _ h.s e) ?_ ?_
        ·intro _ _ _ H;go_wp2_with fail;exact⟨rfl,Ans.badh H⟩
        clear znx zr zt yr HT HA
        intro x ax cx q8 w8 HT HA
        obtain⟨znx,zr,zt,-⟩:=HA.out.fs
        have yr:=HA.out.fw 1 rfl
        replace HT:=ac9 HT
        go_wp2_with fail
        replace HA:=HA.out.pN (g:=w8.heap.size) rfl x ax cx
        refine HA.out.node 76 t.text t.from' [(x,ax,cx)] (by simp) rfl (by simp) rfl rfl HT ?_
        clear znx zr zt yr HT HA
        intro z az cz w9 _ HT HA
        obtain⟨zx,znx,zr,zt,-⟩:=HA.out.fs
        have yr:=HA.out.fw 2 rfl
        go_wp2_with fail
        exact HA.out.fin_nd 2 0 rfl rfl rfl rfl rfl HT.out.symm
       |false=>
        replace HT:=hneg HT (by rw [hi,hc];decide)
        go_wp2_with fail
        replace HT:=ac9 HT
        refine HA.out.stepN HT HN (fun _ h e=>hR.h (.simple t) _ _ _ h.s e) ?_ ?_
        ·intro _ _ _ H;go_wp2_with fail;exact⟨rfl,Ans.badh H⟩
        clear znx zr zt yr HT HA
        intro z az cz q6 w6 HT HA
        obtain⟨znx,zr,zt,-⟩:=HA.out.fs
        have yr:=HA.out.fw 1 rfl
        go_wp2_with fail
        exact HA.out.fin_nd 1 0 rfl rfl rfl rfl rfl HT.out.symm
      |false=>
       replace HT:=hneg HT (by rw [hi];simp)
       go_wp2_with fail
       replace HT:=ac9 HT
       refine HA.out.stepN HT HN (fun _ h e=>hR.h (.simple t) _ _ _ h.s e) ?_ ?_
       ·intro _ _ _ H;go_wp2_with fail;exact⟨rfl,Ans.badh H⟩
       clear znx zr zt yr HT HA
       intro z az cz q5 w5 HT HA
       obtain⟨znx,zr,zt,-⟩:=HA.out.fs
       have yr:=HA.out.fw 1 rfl
       go_wp2_with fail
       exact HA.out.fin_nd 1 0 rfl rfl rfl rfl rfl HT.out.symm
    ·have hk1w:=nt hk1
     replace HT:=hpos HT (by exact hk1)
     have hk1':=hJ hk1
     clear hk1
     go_wp2_with fail
     replace HT:=ac9 HT
     refine HA.out.stepN HT HN (fun _ h e=>hR.h (.simple t) _ _ _ h.s e) ?_ ?_
     ·intro _ _ _ H;go_wp2_with fail;exact⟨rfl,Ans.badh H⟩
     clear zr zt yr HT HA
     intro z az cz q3 w3 HT HA
     obtain⟨zr,zt,-⟩:=HA.out.fs
     have yr:=HA.out.fw 0 rfl
     go_wp2_with fail
     exact HA.out.fin_nd 0 0 rfl rfl rfl rfl rfl HT.out.symm
 |false=>
  replace HT:=hpos HT (by rfl)
  exact absurd HT.out.symm HN.out
end
end Go.Proofs.YtnobjeelihkjmaaGreatDoor
