/- Steps (Qx Qy Qz Q1 Q2). Conditions: as stated. -/
import Derived.Test.YtnahajcjpmbflaaGreatDoorPn11
import Derived.Deep.DrawnRows
set_option maxHeartbeats 1000000
set_option maxRecDepth 100000
namespace Go.Proofs.YtnahajcjpmbflaaGreatDoor
section
open Go.RowKit
attribute [local go_sem] fld_tk0 fld_tk1 fld_tk2 fld_tk3 fld_tk4 mk_func
attribute [local go_sem ↓] Go.wp_at_zero Go.wp_at_succ
theorem Sa.retext {E:PE} {F0 X:Nat→Prop} {w0 w:World} {q:Ps} {bs:List Box} {ns:List Kd} {ro:Option (Value × List Kd)} {n:Nd} {a:Option Addr} {c:Nat} (h:Sa E F0 X w0 w q bs ((n,a,c)::ns) ro) (x:ByteArray):
  Sa E F0 X w0 w q bs ((.mk n.kind x n.kids n.from' n.till,a,c)::(n,a,c)::ns) ro:=by
 obtain⟨F,h⟩:=h
 have h2:IsP E F w n (.agg #[.int .i64 n.kind,.string n.text,.slice a n.kids.length c,.int .i64 n.from',.int .i64 n.till]):=h.ni 0 rfl
 obtain⟨b,cap,hv,h3,h4⟩:=h2
 have e:b=a∧cap=c:=by
  simp only [Value.agg.injEq] at hv
  have:=congrArg (fun c:Array Value=>c[2]?) hv
  simp at this
  exact⟨this.1.symm,this.2.symm⟩
 obtain⟨rfl,rfl⟩:=e
 exact⟨F,h.node ⟨b,cap,rfl,h3,h4⟩⟩
theorem S.template {E:PE} {R:(x:Fn)→PM x.Out} (hR:Env E R) {F:Nat→Prop} {w:World} {p:Ps} (tagged:Bool) (h:St E F w p) (hne:templateQ tagged p≠ .out):
  Calls Tryz.prog 194 #[.pointer (some ⟨E.b,0,none⟩),.bool tagged] w (Ans E F X0 w (templateQ tagged p) fun n v w'=>IsP E F w' n v):=by
 obtain⟨T,hT⟩: ∃T,templateQ tagged p=T:=⟨_,rfl⟩
 rw [hT] at hne⊢
 unfold templateQ at hT
 have HT:=Lib.hid hT
 have HN:=Lib.hid hne
 have HA:=Sa.start0 (X:=X0) h
 clear h hne hT
 go_enter Tryz.func194,Tryz.ntmps194
 go_upto_region 1 with fail
 replace HA:=HA.out.pZ (g:=w.heap.size) rfl
 generalize (w.alloc (.cells #[.int .i64 0,.string ⟨#[]⟩,.slice none 0 0,.int .i64 0,.int .i64 0] 31))=w1 at*
 obtain⟨zr,-⟩:=HA.out.fs
 have yr:=HA.out.fw 0 rfl
 replace HT:=hget HT
 obtain⟨t,ht⟩: ∃t,p.tok=t:=⟨_,rfl⟩
 have c2:=HA.out.c_kind
 have c3:=HA.out.c_text
 have c4:=HA.out.c_from
 have c5:=HA.out.c_till
 have c6:=HA.out.c_line
 rw [ht] at c2 c3 c4 c5 c6 HT
 by_cases hc:tagged=false∨t.kind=8∨t.kind=10∨t.text.size<2∨16777216<t.text.size
 ·replace HT:=hpos HT (by exact hc)
  exact absurd HT.out.symm HN.out
 ·replace HT:=hneg HT (by exact hc)
  have HTK:=Lib.hid ht
  simp only [not_or] at hc
  obtain⟨hc1,hc2,hc3,hc4,hc5⟩:=hc
  obtain rfl:tagged=true:=by simpa using hc1
  have e8:(t.kind==8)=false:=kf hc2
  have e10:(t.kind==10)=false:=kf hc3
  clear hc1 hc2 hc3 ht
  go_wp2_with fail
  replace HA:=HA.out.pT (g:=w1.heap.size) rfl t
  clear zr yr
  generalize (w1.alloc (.cells #[.int .i64 t.kind,.string t.text,.int .i64 t.from',.int .i64 t.till,.bool t.line] 54))=w2 at*
  obtain⟨zt,zr,-⟩:=HA.out.fs
  have yr:=HA.out.fw 1 rfl
  go_loopw [6,7,8,9] (fun u6 u7 _ _ wr=>u6= .slice none 0 0∧u7= .pointer (some ⟨w1.heap.size,0,none⟩)∧w2=wr) (fun _ _ _ _ _=>0)
  case atStart=>exact⟨rfl,rfl,rfl⟩
  case round=>
   obtain⟨rfl,rfl,hwr⟩:=hrel
   subst hwr
   clear c2 c3 c4 c5 c6
   go_wp2_with fail
   refine HA.out.leaf 9 t ?_
   clear zt zr yr HA
   intro n am cm w3 HE HA
   obtain⟨zt,zr,-⟩:=HA.out.fs
   have yr:=HA.out.fw 1 rfl
   have hts:((t.text.size:Int) - 1).toNat=t.text.size - 1:=by omega
   have hts1:(1:Int)≤(t.text.size:Int) - 1:=by omega
   have hts2:(t.text.size:Int) - 1≤(t.text.size:Int):=by omega
   go_upto_region 11 with fail
   obtain⟨x,hx⟩: ∃x,t.text.extract 1 (t.text.size - 1)=x:=⟨_,rfl⟩
   obtain⟨m,hm⟩: ∃m,Nd.mk n.kind x n.kids n.from' n.till=m:=⟨_,rfl⟩
   have HM:=Sa.retext HA.out x
   rw [hm] at HM
   have hm2:Nd.mk 9 x [] t.from' t.till=m:=by rw [←hm,←HE.out];rfl
   rw [hx,hm2] at HT
   have e1:n.kind=m.kind:=by rw [←hm];rfl
   have e2:x=m.text:=by rw [←hm];rfl
   have e3:n.kids.length=m.kids.length:=by rw [←hm];rfl
   have e4:n.from'=m.from':=by rw [←hm];rfl
   have e5:n.till=m.till:=by rw [←hm];rfl
   rw [hx]
   simp only [e1,e2,e3,e4,e5]
   replace HA:=Lib.hid HM
   clear HM hm hm2 hx e1 e2 e3 e4 e5 HE hts hts1 hts2
   go_wp2_with fail
   replace HA:=HA.out.pN (g:=w3.heap.size) rfl m am cm
   refine HA.out.stepV HT HN (fun _ h e=>P.take hR.ok h.s e) ?_ ?_
   ·intro _ _ _ H;go_wp2_with fail;exact⟨rfl,Ans.badh H⟩
   clear zt zr yr HT HA
   intro _ q4 w4 HT HA
   obtain⟨zm,zt,zr,-⟩:=HA.out.fs
   have yr:=HA.out.fw 2 rfl
   replace HA:=HA.out.row0
   go_wp2_with (at_builtin;refine wp_app (by rfl) _ _ _ (by rfl) (by kernel_rfl) nd_info HA.out 0 rfl (by rfl) (g:=w4.heap.size) rfl (by rfl) rfl (by simp) ?_;clear zm zt zr yr HA;intro rr rc w5 HA)
   go_wp2_with fail
   refine HA.out.nodeR 8 ⟨#[]⟩ t.from' rfl HT ?_
   clear HT HA
   intro k ak ck w6 _ HT HA
   obtain⟨zm,zt,zr,-⟩:=HA.out.fs
   have yr:=HA.out.fw 2 rfl
   go_wp2_with fail
   exact HA.out.fin_nd 2 0 rfl rfl rfl rfl rfl HT.out.symm
end
section
open Go.RowKit
attribute [local go_sem] fld_tk0 fld_tk1 fld_tk2 fld_tk3 fld_tk4 mk_func
attribute [local go_sem ↓] Go.wp_at_zero Go.wp_at_succ
theorem S.jump {E:PE} {R:(x:Fn)→PM x.Out} (hR:Env E R) {F:Nat→Prop} {w:World} {p:Ps} (t:Tk) (h:St E F w p) (hne:jumpS E.s E.m t p≠ .out):
  Calls Tryz.prog 74 #[.pointer (some ⟨E.b,0,none⟩),.agg #[.int .i64 t.kind,.string t.text,.int .i64 t.from',.int .i64 t.till,.bool t.line]] w (Ans E F X0 w (jumpS E.s E.m t p) fun n v w'=>IsP E F w' n v):=by
 obtain⟨T,hT⟩: ∃T,jumpS E.s E.m t p=T:=⟨_,rfl⟩
 rw [hT] at hne⊢
 unfold jumpS at hT
 have HT:=Lib.hid hT
 have HN:=Lib.hid hne
 have HA:=Sa.start0 (X:=X0) h
 clear h hne hT
 go_enter Tryz.func74,Tryz.ntmps74
 go_wp2_with fail
 replace HA:=HA.out.pT (g:=w.heap.size) rfl t
 replace HA:=HA.out.pZ (g:=(w.heap.size+1)) (by simp)
 refine HA.out.stepV HT HN (fun _ h e=>P.take hR.ok h.s e) ?_ ?_
 ·intro _ _ _ H;go_wp2_with fail;exact⟨rfl,Ans.badh H⟩
 clear HT HA
 intro _ q1 w1 HT HA
 obtain⟨zr,zt,-⟩:=HA.out.fs
 have yr:=HA.out.fw 0 rfl
 by_cases hc:t.text=⟨#[99,111,110,116,105,110,117,101]⟩
 ·have hcw:(t.text.toList== [99,111,110,116,105,110,117,101])=true:=xt hc
  rw [if_pos hc] at HT
  have hc':=Lib.hid hc
  clear hc
  go_wp2_with fail
  refine HA.out.stepV HT HN (fun _ h e=>P.peek hR.ok 1 h.s e) ?_ ?_
  ·intro _ _ _ H;go_wp2_with fail;exact⟨rfl,Ans.badh H⟩
  clear zr zt yr HT HA
  intro u q2 w2 HT HA
  obtain⟨zr,zt,-⟩:=HA.out.fs
  have yr:=HA.out.fw 0 rfl
  replace HT:=hget HT
  go_upto_region 7 with fail
  replace HA:=HA.out.pT (g:=w2.heap.size) rfl u
  clear zr zt yr
  generalize (w2.alloc (.cells #[.int .i64 u.kind,.string u.text,.int .i64 u.from',.int .i64 u.till,.bool u.line] 54))=w3 at*
  obtain⟨zu,zr,zt,-⟩:=HA.out.fs
  have yr:=HA.out.fw 1 rfl
  cases hl:u.line with
  |true=>
   rw [if_neg (by show¬((!u.line && identB E.m q2.flags u)=true);rw [hl];simp)] at HT
   replace HT:=hpure HT
   go_wp2_with fail
   refine HA.out.stepV HT HN (fun _ h e=>P.semicolon hR.ok h.s e) ?_ ?_
   ·intro _ _ _ H;go_wp2_with fail;exact⟨rfl,Ans.badh H⟩
   clear zu zr zt yr HT HA
   intro _ q4 w4 HT HA
   obtain⟨zu,zr,zt,-⟩:=HA.out.fs
   have yr:=HA.out.fw 1 rfl
   go_wp2_with fail
   refine HA.out.node0 70 ⟨#[]⟩ t.from' HT ?_
   clear zu zr zt yr HT HA
   intro k ak ck w5 _ HT HA
   obtain⟨zu,zr,zt,-⟩:=HA.out.fs
   have yr:=HA.out.fw 1 rfl
   go_wp2_with fail
   exact HA.out.fin_nd 1 0 rfl rfl rfl rfl rfl HT.out.symm
  |false=>
   go_wp2_with fail
   refine HA.out.stepQ (fun _ h=>P.ident ⟨u.kind,u.text,u.from',u.till,false⟩ h.s) ?_
   clear zu zr zt yr HA
   intro w4 HA
   obtain⟨zu,zr,zt,-⟩:=HA.out.fs
   have yr:=HA.out.fw 1 rfl
   cases hi0:identB E.m q2.flags ⟨u.kind,u.text,u.from',u.till,false⟩ with
   |true=>
    have hi:identB E.m q2.flags u=true:=hi0
    rw [if_pos (by show(!u.line && identB E.m q2.flags u)=true;rw [hl,hi];rfl)] at HT
    replace HT:=hassoc HT
    go_wp2_with fail
    refine HA.out.stepV HT HN (fun _ h e=>P.take hR.ok h.s e) ?_ ?_
    ·intro _ _ _ H;go_wp2_with fail;exact⟨rfl,Ans.badh H⟩
    clear zu zr zt yr HT HA
    intro v q5 w5 HT HA
    obtain⟨zu,zr,zt,-⟩:=HA.out.fs
    have yr:=HA.out.fw 1 rfl
    replace HT:=hpure HT
    go_wp2_with fail
    refine HA.out.stepV HT HN (fun _ h e=>P.semicolon hR.ok h.s e) ?_ ?_
    ·intro _ _ _ H;go_wp2_with fail;exact⟨rfl,Ans.badh H⟩
    clear zu zr zt yr HT HA
    intro _ q6 w6 HT HA
    obtain⟨zu,zr,zt,-⟩:=HA.out.fs
    have yr:=HA.out.fw 1 rfl
    go_wp2_with fail
    refine HA.out.node0 70 v.text t.from' HT ?_
    clear zu zr zt yr HT HA
    intro k ak ck w7 _ HT HA
    obtain⟨zu,zr,zt,-⟩:=HA.out.fs
    have yr:=HA.out.fw 1 rfl
    go_wp2_with fail
    exact HA.out.fin_nd 1 0 rfl rfl rfl rfl rfl HT.out.symm
   |false=>
    have hi:identB E.m q2.flags u=false:=hi0
    rw [if_neg (by show¬((!u.line && identB E.m q2.flags u)=true);rw [hl,hi];decide)] at HT
    replace HT:=hpure HT
    go_wp2_with fail
    refine HA.out.stepV HT HN (fun _ h e=>P.semicolon hR.ok h.s e) ?_ ?_
    ·intro _ _ _ H;go_wp2_with fail;exact⟨rfl,Ans.badh H⟩
    clear zu zr zt yr HT HA
    intro _ q5 w5 HT HA
    obtain⟨zu,zr,zt,-⟩:=HA.out.fs
    have yr:=HA.out.fw 1 rfl
    go_wp2_with fail
    refine HA.out.node0 70 ⟨#[]⟩ t.from' HT ?_
    clear zu zr zt yr HT HA
    intro k ak ck w6 _ HT HA
    obtain⟨zu,zr,zt,-⟩:=HA.out.fs
    have yr:=HA.out.fw 1 rfl
    go_wp2_with fail
    exact HA.out.fin_nd 1 0 rfl rfl rfl rfl rfl HT.out.symm
 ·have hcw:(t.text.toList== [99,111,110,116,105,110,117,101])=false:=xf hc
  rw [if_neg hc] at HT
  have hc':=Lib.hid hc
  clear hc
  go_wp2_with fail
  refine HA.out.stepV HT HN (fun _ h e=>P.peek hR.ok 1 h.s e) ?_ ?_
  ·intro _ _ _ H;go_wp2_with fail;exact⟨rfl,Ans.badh H⟩
  clear zr zt yr HT HA
  intro u q2 w2 HT HA
  obtain⟨zr,zt,-⟩:=HA.out.fs
  have yr:=HA.out.fw 0 rfl
  replace HT:=hget HT
  go_upto_region 7 with fail
  replace HA:=HA.out.pT (g:=w2.heap.size) rfl u
  clear zr zt yr
  generalize (w2.alloc (.cells #[.int .i64 u.kind,.string u.text,.int .i64 u.from',.int .i64 u.till,.bool u.line] 54))=w3 at*
  obtain⟨zu,zr,zt,-⟩:=HA.out.fs
  have yr:=HA.out.fw 1 rfl
  cases hl:u.line with
  |true=>
   rw [if_neg (by show¬((!u.line && identB E.m q2.flags u)=true);rw [hl];simp)] at HT
   replace HT:=hpure HT
   go_wp2_with fail
   refine HA.out.stepV HT HN (fun _ h e=>P.semicolon hR.ok h.s e) ?_ ?_
   ·intro _ _ _ H;go_wp2_with fail;exact⟨rfl,Ans.badh H⟩
   clear zu zr zt yr HT HA
   intro _ q4 w4 HT HA
   obtain⟨zu,zr,zt,-⟩:=HA.out.fs
   have yr:=HA.out.fw 1 rfl
   go_wp2_with fail
   refine HA.out.node0 69 ⟨#[]⟩ t.from' HT ?_
   clear zu zr zt yr HT HA
   intro k ak ck w5 _ HT HA
   obtain⟨zu,zr,zt,-⟩:=HA.out.fs
   have yr:=HA.out.fw 1 rfl
   go_wp2_with fail
   exact HA.out.fin_nd 1 0 rfl rfl rfl rfl rfl HT.out.symm
  |false=>
   go_wp2_with fail
   refine HA.out.stepQ (fun _ h=>P.ident ⟨u.kind,u.text,u.from',u.till,false⟩ h.s) ?_
   clear zu zr zt yr HA
   intro w4 HA
   obtain⟨zu,zr,zt,-⟩:=HA.out.fs
   have yr:=HA.out.fw 1 rfl
   cases hi0:identB E.m q2.flags ⟨u.kind,u.text,u.from',u.till,false⟩ with
   |true=>
    have hi:identB E.m q2.flags u=true:=hi0
    rw [if_pos (by show(!u.line && identB E.m q2.flags u)=true;rw [hl,hi];rfl)] at HT
    replace HT:=hassoc HT
    go_wp2_with fail
    refine HA.out.stepV HT HN (fun _ h e=>P.take hR.ok h.s e) ?_ ?_
    ·intro _ _ _ H;go_wp2_with fail;exact⟨rfl,Ans.badh H⟩
    clear zu zr zt yr HT HA
    intro v q5 w5 HT HA
    obtain⟨zu,zr,zt,-⟩:=HA.out.fs
    have yr:=HA.out.fw 1 rfl
    replace HT:=hpure HT
    go_wp2_with fail
    refine HA.out.stepV HT HN (fun _ h e=>P.semicolon hR.ok h.s e) ?_ ?_
    ·intro _ _ _ H;go_wp2_with fail;exact⟨rfl,Ans.badh H⟩
    clear zu zr zt yr HT HA
    intro _ q6 w6 HT HA
    obtain⟨zu,zr,zt,-⟩:=HA.out.fs
    have yr:=HA.out.fw 1 rfl
    go_wp2_with fail
    refine HA.out.node0 69 v.text t.from' HT ?_
    clear zu zr zt yr HT HA
    intro k ak ck w7 _ HT HA
    obtain⟨zu,zr,zt,-⟩:=HA.out.fs
    have yr:=HA.out.fw 1 rfl
    go_wp2_with fail
    exact HA.out.fin_nd 1 0 rfl rfl rfl rfl rfl HT.out.symm
   |false=>
    have hi:identB E.m q2.flags u=false:=hi0
    rw [if_neg (by show¬((!u.line && identB E.m q2.flags u)=true);rw [hl,hi];decide)] at HT
    replace HT:=hpure HT
    go_wp2_with fail
    refine HA.out.stepV HT HN (fun _ h e=>P.semicolon hR.ok h.s e) ?_ ?_
    ·intro _ _ _ H;go_wp2_with fail;exact⟨rfl,Ans.badh H⟩
    clear zu zr zt yr HT HA
    intro _ q5 w5 HT HA
    obtain⟨zu,zr,zt,-⟩:=HA.out.fs
    have yr:=HA.out.fw 1 rfl
    go_wp2_with fail
    refine HA.out.node0 69 ⟨#[]⟩ t.from' HT ?_
    clear zu zr zt yr HT HA
    intro k ak ck w6 _ HT HA
    obtain⟨zu,zr,zt,-⟩:=HA.out.fs
    have yr:=HA.out.fw 1 rfl
    go_wp2_with fail
    exact HA.out.fin_nd 1 0 rfl rfl rfl rfl rfl HT.out.symm
end
section
open Go.RowKit
attribute [local go_sem] fld_tk0 fld_tk1 fld_tk2 fld_tk3 fld_tk4 mk_func
attribute [local go_sem ↓] Go.wp_at_zero Go.wp_at_succ
theorem P.punct_nl (t:Tk) (x:ByteArray) (hl:t.line=false) (W:World):Calls Tryz.prog 35 #[.agg #[.int .i64 t.kind,.string t.text,.int .i64 t.from',.int .i64 t.till,.bool false],.string x] W fun e w'=>e= .returned (.bool (punctT t x))∧Below W.heap.size W w':=by
 have h:=P.punct t x W
 rw [hl] at h
 exact h
theorem S.returned {E:PE} {R:(x:Fn)→PM x.Out} (hR:Env E R) {F:Nat→Prop} {w:World} {p:Ps} (t:Tk) (h:St E F w p) (hne:returnedS E.s R t p≠ .out):
  Calls Tryz.prog 73 #[.pointer (some ⟨E.b,0,none⟩),.agg #[.int .i64 t.kind,.string t.text,.int .i64 t.from',.int .i64 t.till,.bool t.line]] w (Ans E F X0 w (returnedS E.s R t p) fun n v w'=>IsP E F w' n v):=by
 obtain⟨T,hT⟩: ∃T,returnedS E.s R t p=T:=⟨_,rfl⟩
 rw [hT] at hne⊢
 unfold returnedS at hT
 have HT:=Lib.hid hT
 have HN:=Lib.hid hne
 have HA:=Sa.start0 (X:=X0) h
 clear h hne hT
 go_enter Tryz.func73,Tryz.ntmps73
 go_wp2_with fail
 replace HA:=HA.out.pT (g:=w.heap.size) rfl t
 replace HA:=HA.out.pZ (g:=(w.heap.size+1)) (by simp)
 refine HA.out.stepV HT HN (fun _ h e=>P.take hR.ok h.s e) ?_ ?_
 ·intro _ _ _ H;go_wp2_with fail;exact⟨rfl,Ans.badh H⟩
 clear HT HA
 intro _ q1 w1 HT HA
 obtain⟨zr,zt,-⟩:=HA.out.fs
 have yr:=HA.out.fw 0 rfl
 go_wp2_with fail
 replace HA:=HA.out.pZ (g:=w1.heap.size) rfl
 refine HA.out.stepV HT HN (fun _ h e=>P.peek hR.ok 2 h.s e) ?_ ?_
 ·intro _ _ _ H;go_wp2_with fail;exact⟨rfl,Ans.badh H⟩
 clear zr zt yr HT HA
 intro u q2 w2 HT HA
 obtain⟨zn,zr,zt,-⟩:=HA.out.fs
 have yn:=HA.out.fw 0 rfl
 have yr:=HA.out.fw 1 rfl
 go_upto_region 4 with fail
 replace HA:=HA.out.pT (g:=w2.heap.size) rfl u
 clear zn zr zt yn yr
 generalize (w2.alloc (.cells #[.int .i64 u.kind,.string u.text,.int .i64 u.from',.int .i64 u.till,.bool u.line] 54))=w3 at*
 obtain⟨zu,zn,zr,zt,-⟩:=HA.out.fs
 have yn:=HA.out.fw 1 rfl
 have yr:=HA.out.fw 2 rfl
 cases hl:u.line with
 |true=>
  rw [if_neg (by show¬((!u.line && decide (u.kind≠0) && !punctT u ⟨#[59]⟩ && !punctT u ⟨#[125]⟩)=true);rw [hl];simp)] at HT
  replace HT:=hpure HT
  go_wp2_with fail
  refine HA.out.stepV HT HN (fun _ h e=>P.semicolon hR.ok h.s e) ?_ ?_
  ·intro _ _ _ H;go_wp2_with fail;exact⟨rfl,Ans.badh H⟩
  clear zu zn zr zt yn yr HT HA
  intro _ q4 w4 HT HA
  obtain⟨zu,zn,zr,zt,-⟩:=HA.out.fs
  have yn:=HA.out.fw 1 rfl
  have yr:=HA.out.fw 2 rfl
  go_wp2_with fail
  refine HA.out.node 68 ⟨#[]⟩ t.from' [(Nd.zero,none,0)] (by simp) rfl rfl rfl rfl HT ?_
  clear zu zn zr zt yn yr HT HA
  intro k ak ck w5 _ HT HA
  obtain⟨zu,zn,zr,zt,-⟩:=HA.out.fs
  have yn:=HA.out.fw 1 rfl
  have yr:=HA.out.fw 2 rfl
  go_wp2_with fail
  exact HA.out.fin_nd 2 0 rfl rfl rfl rfl rfl HT.out.symm
 |false=>
  by_cases hk0:u.kind=0
  ·have hk0w:=nf hk0
   rw [if_neg (by show¬((!u.line && decide (u.kind≠0) && !punctT u ⟨#[59]⟩ && !punctT u ⟨#[125]⟩)=true);rw [hl,hk0];simp)] at HT
   replace HT:=hpure HT
   go_wp2_with fail
   refine HA.out.stepV HT HN (fun _ h e=>P.semicolon hR.ok h.s e) ?_ ?_
   ·intro _ _ _ H;go_wp2_with fail;exact⟨rfl,Ans.badh H⟩
   clear zu zn zr zt yn yr HT HA
   intro _ q4 w4 HT HA
   obtain⟨zu,zn,zr,zt,-⟩:=HA.out.fs
   have yn:=HA.out.fw 1 rfl
   have yr:=HA.out.fw 2 rfl
   go_wp2_with fail
   refine HA.out.node 68 ⟨#[]⟩ t.from' [(Nd.zero,none,0)] (by simp) rfl rfl rfl rfl HT ?_
   clear zu zn zr zt yn yr HT HA
   intro k ak ck w5 _ HT HA
   obtain⟨zu,zn,zr,zt,-⟩:=HA.out.fs
   have yn:=HA.out.fw 1 rfl
   have yr:=HA.out.fw 2 rfl
   go_wp2_with fail
   exact HA.out.fin_nd 2 0 rfl rfl rfl rfl rfl HT.out.symm
  ·have hk0w:=nt hk0
   go_wp2_with fail
   refine HA.out.stepQ (fun _ h=>P.punct_nl u ⟨#[59]⟩ hl _) ?_
   clear zu zn zr zt yn yr HA
   intro w4 HA
   obtain⟨zu,zn,zr,zt,-⟩:=HA.out.fs
   have yn:=HA.out.fw 1 rfl
   have yr:=HA.out.fw 2 rfl
   cases hs:punctT u ⟨#[59]⟩ with
   |true=>
    rw [if_neg (by show¬((!u.line && decide (u.kind≠0) && !punctT u ⟨#[59]⟩ && !punctT u ⟨#[125]⟩)=true);rw [hs];simp)] at HT
    replace HT:=hpure HT
    go_wp2_with fail
    refine HA.out.stepV HT HN (fun _ h e=>P.semicolon hR.ok h.s e) ?_ ?_
    ·intro _ _ _ H;go_wp2_with fail;exact⟨rfl,Ans.badh H⟩
    clear zu zn zr zt yn yr HT HA
    intro _ q5 w5 HT HA
    obtain⟨zu,zn,zr,zt,-⟩:=HA.out.fs
    have yn:=HA.out.fw 1 rfl
    have yr:=HA.out.fw 2 rfl
    go_wp2_with fail
    refine HA.out.node 68 ⟨#[]⟩ t.from' [(Nd.zero,none,0)] (by simp) rfl rfl rfl rfl HT ?_
    clear zu zn zr zt yn yr HT HA
    intro k ak ck w6 _ HT HA
    obtain⟨zu,zn,zr,zt,-⟩:=HA.out.fs
    have yn:=HA.out.fw 1 rfl
    have yr:=HA.out.fw 2 rfl
    go_wp2_with fail
    exact HA.out.fin_nd 2 0 rfl rfl rfl rfl rfl HT.out.symm
   |false=>
    go_wp2_with fail
    refine HA.out.stepQ (fun _ h=>P.punct_nl u ⟨#[125]⟩ hl _) ?_
    clear zu zn zr zt yn yr HA
    intro w5 HA
    obtain⟨zu,zn,zr,zt,-⟩:=HA.out.fs
    have yn:=HA.out.fw 1 rfl
    have yr:=HA.out.fw 2 rfl
    cases hc:punctT u ⟨#[125]⟩ with
    |true=>
     rw [if_neg (by show¬((!u.line && decide (u.kind≠0) && !punctT u ⟨#[59]⟩ && !punctT u ⟨#[125]⟩)=true);rw [hc];simp)] at HT
     replace HT:=hpure HT
     go_wp2_with fail
     refine HA.out.stepV HT HN (fun _ h e=>P.semicolon hR.ok h.s e) ?_ ?_
     ·intro _ _ _ H;go_wp2_with fail;exact⟨rfl,Ans.badh H⟩
     clear zu zn zr zt yn yr HT HA
     intro _ q6 w6 HT HA
     obtain⟨zu,zn,zr,zt,-⟩:=HA.out.fs
     have yn:=HA.out.fw 1 rfl
     have yr:=HA.out.fw 2 rfl
     go_wp2_with fail
     refine HA.out.node 68 ⟨#[]⟩ t.from' [(Nd.zero,none,0)] (by simp) rfl rfl rfl rfl HT ?_
     clear zu zn zr zt yn yr HT HA
     intro k ak ck w7 _ HT HA
     obtain⟨zu,zn,zr,zt,-⟩:=HA.out.fs
     have yn:=HA.out.fw 1 rfl
     have yr:=HA.out.fw 2 rfl
     go_wp2_with fail
     exact HA.out.fin_nd 2 0 rfl rfl rfl rfl rfl HT.out.symm
    |false=>
     rw [if_pos (by show(!u.line && decide (u.kind≠0) && !punctT u ⟨#[59]⟩ && !punctT u ⟨#[125]⟩)=true;rw [hl,hs,hc,decide_eq_true hk0];rfl)] at HT
     have hk0':=Lib.hid hk0
     clear hk0
     go_wp2_with fail
     refine HA.out.stepN HT HN (fun _ h e=>hR.h .expression _ _ _ h.s e) ?_ ?_
     ·intro _ _ _ H;go_wp2_with fail;exact⟨rfl,Ans.badh H⟩
     clear zu zn zr zt yn yr HT HA
     intro x ax cx q6 w6 HT HA
     obtain⟨zu,zn,zr,zt,-⟩:=HA.out.fs
     have yn:=HA.out.fw 1 rfl
     have yr:=HA.out.fw 2 rfl
     go_upto_region 6 with fail
     replace HA:=HA.out.setN 1 0 rfl rfl rfl
     clear zu zn zr zt yn yr
     obtain⟨w7,e8,HA⟩:=HA
     rw [e8]
     clear e8
     dsimp only [setAt] at HA
     obtain⟨zu,zn,zr,zt,-⟩:=HA.out.fs
     have yn:=HA.out.fw 1 rfl
     have yr:=HA.out.fw 2 rfl
     go_wp2_with fail
     refine HA.out.stepV HT HN (fun _ h e=>P.semicolon hR.ok h.s e) ?_ ?_
     ·intro _ _ _ H;go_wp2_with fail;exact⟨rfl,Ans.badh H⟩
     clear zu zn zr zt yn yr HT HA
     intro _ q8 w8 HT HA
     obtain⟨zu,zn,zr,zt,-⟩:=HA.out.fs
     have yn:=HA.out.fw 1 rfl
     have yr:=HA.out.fw 2 rfl
     go_wp2_with fail
     refine HA.out.node 68 ⟨#[]⟩ t.from' [(x,ax,cx)] (by simp) rfl rfl rfl rfl HT ?_
     clear zu zn zr zt yn yr HT HA
     intro k ak ck w9 _ HT HA
     obtain⟨zu,zn,zr,zt,-⟩:=HA.out.fs
     have yn:=HA.out.fw 1 rfl
     have yr:=HA.out.fw 2 rfl
     go_wp2_with fail
     exact HA.out.fin_nd 2 0 rfl rfl rfl rfl rfl HT.out.symm
end
section
open Go.RowKit
attribute [local go_sem] fld_tk0 fld_tk1 fld_tk2 fld_tk3 fld_tk4 mk_func
attribute [local go_sem ↓] Go.wp_at_zero Go.wp_at_succ
theorem S.declaration {E:PE} {R:(x:Fn)→PM x.Out} (hR:Env E R) {F:Nat→Prop} {w:World} {p:Ps} (must:Bool) (h:St E F w p) (hne:declarationQ R must p≠ .out):
  Calls Tryz.prog 67 #[.pointer (some ⟨E.b,0,none⟩),.bool must] w (Ans E F X0 w (declarationQ R must p) fun n v w'=>IsP E F w' n v):=by
 obtain⟨T,hT⟩: ∃T,declarationQ R must p=T:=⟨_,rfl⟩
 rw [hT] at hne⊢
 unfold declarationQ at hT
 have HT:=Lib.hid hT
 have HN:=Lib.hid hne
 have HA:=Sa.start0 (X:=X0) h
 clear h hne hT
 go_enter Tryz.func67,Tryz.ntmps67
 go_upto_region 1 with fail
 replace HA:=HA.out.pZ (g:=w.heap.size) rfl
 generalize (w.alloc (.cells #[.int .i64 0,.string ⟨#[]⟩,.slice none 0 0,.int .i64 0,.int .i64 0] 31))=w1 at*
 obtain⟨zr,-⟩:=HA.out.fs
 have yr:=HA.out.fw 0 rfl
 replace HT:=hget HT
 have cEkind:=HA.out.c_kind
 have cEtext:=HA.out.c_text
 have cEfrom:=HA.out.c_from
 have cEtill:=HA.out.c_till
 have cEline:=HA.out.c_line
 have lE:=HA.out.lt
 go_wp2_with fail
 refine HA.out.stepQ (fun _ h=>P.name p.tok ⟨#[99,108,97,115,115]⟩ _) ?_
 clear zr yr cEkind cEtext cEfrom cEtill cEline lE HA
 intro w2 HA
 obtain⟨zr,-⟩:=HA.out.fs
 have yr:=HA.out.fw 0 rfl
 cases hc:nameT p.tok ⟨#[99,108,97,115,115]⟩ with
 |true=>
  replace HT:=hpos HT (by exact hc)
  exact absurd HT.out.symm HN.out
 |false=>
  replace HT:=hneg HT (by rw [hc];decide)
  go_wp2_with fail
  refine HA.out.stepN HT HN (fun _ h e=>hR.h (.funcs must) _ _ _ h.s e) ?_ ?_
  ·intro _ _ _ H;go_wp2_with fail;exact⟨rfl,Ans.badh H⟩
  clear zr yr HT HA
  intro n an cn q3 w3 HT HA
  obtain⟨zr,-⟩:=HA.out.fs
  have yr:=HA.out.fw 0 rfl
  go_wp2_with fail
  replace HA:=HA.out.pN (g:=w3.heap.size) rfl n an cn
  refine HA.out.node 20 ⟨#[]⟩ p.tok.from' [(n,an,cn)] (by simp) rfl (by simp) rfl rfl HT ?_
  clear zr yr HT HA
  intro k ak ck w4 _ HT HA
  obtain⟨zn,zr,-⟩:=HA.out.fs
  have yr:=HA.out.fw 1 rfl
  go_wp2_with fail
  exact HA.out.fin_nd 1 0 rfl rfl rfl rfl rfl HT.out.symm
end
section
open Go.RowKit
attribute [local go_sem] fld_tk0 fld_tk1 fld_tk2 fld_tk3 fld_tk4 mk_func
attribute [local go_sem ↓] Go.wp_at_zero Go.wp_at_succ
theorem S.funcs {E:PE} {R:(x:Fn)→PM x.Out} (hR:Env E R) {F:Nat→Prop} {w:World} {p:Ps} (must:Bool) (h:St E F w p) (hne:funcsQ E.s E.m R must p≠ .out):
  Calls Tryz.prog 116 #[.pointer (some ⟨E.b,0,none⟩),.bool must] w (Ans E F X0 w (funcsQ E.s E.m R must p) fun n v w'=>IsP E F w' n v):=by
 obtain⟨T,hT⟩: ∃T,funcsQ E.s E.m R must p=T:=⟨_,rfl⟩
 rw [hT] at hne⊢
 unfold funcsQ at hT
 have HT:=Lib.hid hT
 have HN:=Lib.hid hne
 have HA:=Sa.start0 (X:=X0) h
 clear h hne hT
 go_enter Tryz.func116,Tryz.ntmps116
 go_upto_region 1 with fail
 replace HA:=HA.out.pZ (g:=w.heap.size) rfl
 generalize (w.alloc (.cells #[.int .i64 0,.string ⟨#[]⟩,.slice none 0 0,.int .i64 0,.int .i64 0] 31))=w1 at*
 obtain⟨zr,-⟩:=HA.out.fs
 have yr:=HA.out.fw 0 rfl
 by_cases hm:must=false
 ·exact absurd (hpos HT hm).out.symm HN.out
 ·have hm2:must=true:=by simpa using hm
  subst hm2
  replace HT:=hneg HT (by decide)
  replace HT:=hget HT
  have cEfrom:=HA.out.c_from
  have lE:=HA.out.lt
  go_wp2_with fail
  refine HA.out.stepV HT HN (fun _ h e=>P.word hR.ok ⟨#[97,115,121,110,99]⟩ h.s e) ?_ ?_
  ·intro _ _ _ H;go_wp2_with fail;exact⟨rfl,Ans.badh H⟩
  clear zr yr cEfrom lE HT HA
  intro a q2 w2 HT HA
  obtain⟨zr,-⟩:=HA.out.fs
  have yr:=HA.out.fw 0 rfl
  cases a with
  |true=>
   replace HT:=hpos HT (by rfl)
   exact absurd HT.out.symm HN.out
  |false=>
   replace HT:=hneg HT (by decide)
   go_wp2_with fail
   refine HA.out.stepV HT HN (fun _ h e=>P.must hR.ok ⟨#[102,117,110,99,116,105,111,110]⟩ h.s e) ?_ ?_
   ·intro _ _ _ H;go_wp2_with fail;exact⟨rfl,Ans.badh H⟩
   clear zr yr HT HA
   intro _ q3 w3 HT HA
   obtain⟨zr,-⟩:=HA.out.fs
   have yr:=HA.out.fw 0 rfl
   go_wp2_with fail
   refine HA.out.stepV HT HN (fun _ h e=>P.is hR.ok ⟨#[42]⟩ h.s e) ?_ ?_
   ·intro _ _ _ H;go_wp2_with fail;exact⟨rfl,Ans.badh H⟩
   clear zr yr HT HA
   intro b q4 w4 HT HA
   obtain⟨zr,-⟩:=HA.out.fs
   have yr:=HA.out.fw 0 rfl
   cases b with
   |true=>
    replace HT:=hpos HT (by rfl)
    go_wp2_with fail
    replace HA:=HA.out.pZ (g:=w4.heap.size) rfl
    refine HA.out.stepN HT HN (fun _ h e=>P.takeIdent hR.ok h.s e) ?_ ?_
    ·intro _ _ _ H;go_wp2_with fail;exact⟨rfl,Ans.badh H⟩
    clear zr yr HT HA
    intro id aid cid q5 w5 HT HA
    obtain⟨zi,zr,-⟩:=HA.out.fs
    have yi:=HA.out.fw 0 rfl
    have yr:=HA.out.fw 1 rfl
    go_upto_region 11 with fail
    replace HA:=HA.out.setN 0 0 rfl rfl rfl
    clear zi zr yi yr
    obtain⟨w6,e8,HA⟩:=HA
    rw [e8]
    clear e8
    dsimp only [setAt] at HA
    obtain⟨zi,zr,-⟩:=HA.out.fs
    have yi:=HA.out.fw 0 rfl
    have yr:=HA.out.fw 1 rfl
    replace HT:=htail HT
    go_wp2_with fail
    refine HA.out.stepN HT HN (fun _ h e=>hR.h (.callable ⟨#[42]⟩ p.tok.from' id ⟨#[]⟩) _ _ _ _ (h.ni 0 rfl) h.s e) ?_ ?_
    ·intro _ _ _ H;go_wp2_with fail;exact⟨rfl,Ans.badh H⟩
    clear zi zr yi yr HT HA
    intro k ak ck q7 w7 HT HA
    obtain⟨zi,zr,-⟩:=HA.out.fs
    have yi:=HA.out.fw 0 rfl
    have yr:=HA.out.fw 1 rfl
    go_wp2_with fail
    exact HA.out.fin_nd 1 0 rfl rfl rfl rfl rfl HT.out.symm
   |false=>
    replace HT:=hneg HT (by decide)
    go_wp2_with fail
    replace HA:=HA.out.pZ (g:=w4.heap.size) rfl
    refine HA.out.stepN HT HN (fun _ h e=>P.takeIdent hR.ok h.s e) ?_ ?_
    ·intro _ _ _ H;go_wp2_with fail;exact⟨rfl,Ans.badh H⟩
    clear zr yr HT HA
    intro id aid cid q5 w5 HT HA
    obtain⟨zi,zr,-⟩:=HA.out.fs
    have yi:=HA.out.fw 0 rfl
    have yr:=HA.out.fw 1 rfl
    go_upto_region 11 with fail
    replace HA:=HA.out.setN 0 0 rfl rfl rfl
    clear zi zr yi yr
    obtain⟨w6,e8,HA⟩:=HA
    rw [e8]
    clear e8
    dsimp only [setAt] at HA
    obtain⟨zi,zr,-⟩:=HA.out.fs
    have yi:=HA.out.fw 0 rfl
    have yr:=HA.out.fw 1 rfl
    replace HT:=htail HT
    go_wp2_with fail
    refine HA.out.stepN HT HN (fun _ h e=>hR.h (.callable ⟨#[]⟩ p.tok.from' id ⟨#[]⟩) _ _ _ _ (h.ni 0 rfl) h.s e) ?_ ?_
    ·intro _ _ _ H;go_wp2_with fail;exact⟨rfl,Ans.badh H⟩
    clear zi zr yi yr HT HA
    intro k ak ck q7 w7 HT HA
    obtain⟨zi,zr,-⟩:=HA.out.fs
    have yi:=HA.out.fw 0 rfl
    have yr:=HA.out.fw 1 rfl
    go_wp2_with fail
    exact HA.out.fin_nd 1 0 rfl rfl rfl rfl rfl HT.out.symm
end
end Go.Proofs.YtnahajcjpmbflaaGreatDoor
