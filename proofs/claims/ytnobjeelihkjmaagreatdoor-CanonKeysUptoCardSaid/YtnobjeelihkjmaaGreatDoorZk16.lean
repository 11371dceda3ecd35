/- Steps (Pp Pq Pr Pu). Conditions: as stated. -/
import Derived.Test.YtnobjeelihkjmaaGreatDoorZk11
import Derived.Deep.DrawnRows
set_option maxHeartbeats 1000000
set_option maxRecDepth 100000
namespace Go.Proofs.YtnobjeelihkjmaaGreatDoor
section
open Go.RowKit
attribute [local go_sem] ab3 ab4 ab5 ab6 ab7 ab8
attribute [local go_sem ↓] Go.wp_at_zero Go.wp_at_succ
theorem S.property {E:PE} {R:(x:Fn)→PM x.Out} (hR:Env E R) {F:Nat→Prop} {w:World} {p:Ps} (private':Bool) (h:St E F w p) (hne:ao2 E.s private' p≠ .out):
  Calls Tryz.prog 278 #[.pointer (some ⟨E.b,0,none⟩),.bool private'] w (Ans E F X0 w (ao2 E.s private' p) fun n v w'=>IsP E F w' n v):=by
 obtain⟨T,hT⟩: ∃T,ao2 E.s private' p=T:=⟨_,rfl⟩
 rw [hT] at hne⊢
 unfold ao2 at hT
 have HT:=hJ hT
 have HN:=hJ hne
 have HA:=Sa.start0 (X:=X0) h
 clear h hne hT
 go_enter Tryz.func278,Tryz.ntmps278
 go_wp2_with fail
 replace HA:=HA.out.pZ (g:=w.heap.size) rfl
 refine HA.out.stepV HT HN (fun _ h e=>P.peek hR.ok 1 h.s e) ?_ ?_
 ·intro _ _ _ H;go_wp2_with fail;exact⟨rfl,Ans.badh H⟩
 clear HT HA
 intro t q1 w1 HT HA
 obtain⟨zr,-⟩:=HA.out.fs
 have yr:=HA.out.fw 0 rfl
 by_cases h1:t.kind=1
 ·have h2:(t.kind==1)=true:=by rw [beq_iff_eq];exact h1
  replace HT:=hpos HT (by exact h1)
  have HZ:=hJ h1
  clear h1
  go_wp2_with fail
  replace HA:=HA.out.pT (g:=w1.heap.size) rfl t
  refine HA.out.stepV HT HN (fun _ h e=>P.take hR.ok h.s e) ?_ ?_
  ·intro _ _ _ H;go_wp2_with fail;exact⟨rfl,Ans.badh H⟩
  clear zr yr HT HA
  intro u q2 w2 HT HA
  obtain⟨zt,zr,-⟩:=HA.out.fs
  have yr:=HA.out.fw 1 rfl
  go_wp2_with fail
  refine HA.out.leaf 1 u ?_
  clear zt zr yr HA
  intro n an cn w3 HE HA
  rw [HE.out] at HT
  clear HE
  obtain⟨zt,zr,-⟩:=HA.out.fs
  have yr:=HA.out.fw 1 rfl
  go_wp2_with fail
  exact HA.out.fin_nd 1 0 rfl rfl rfl rfl rfl HT.out.symm
 ·have h2:(t.kind==1)=false:=by rw [beq_eq_false_iff_ne];exact h1
  replace HT:=hneg HT (by exact h1)
  have HZ:=hJ h1
  clear h1
  by_cases h3:t.kind=2
  ·have h4:(t.kind !=2)=false:=by rw [h3];rfl
   cases private' with
   |true=>
    replace HT:=hneg HT (by simp [h3])
    have HZ2:=hJ h3
    clear h3
    go_wp2_with fail
    replace HA:=HA.out.pT (g:=w1.heap.size) rfl t
    refine HA.out.stepV HT HN (fun _ h e=>P.take hR.ok h.s e) ?_ ?_
    ·intro _ _ _ H;go_wp2_with fail;exact⟨rfl,Ans.badh H⟩
    clear zr yr HT HA
    intro u q2 w2 HT HA
    obtain⟨zt,zr,-⟩:=HA.out.fs
    have yr:=HA.out.fw 1 rfl
    go_wp2_with fail
    refine HA.out.leaf 2 u ?_
    clear zt zr yr HA
    intro n an cn w3 HE HA
    rw [HE.out] at HT
    clear HE
    obtain⟨zt,zr,-⟩:=HA.out.fs
    have yr:=HA.out.fw 1 rfl
    go_wp2_with fail
    exact HA.out.fin_nd 1 0 rfl rfl rfl rfl rfl HT.out.symm
   |false=>
    replace HT:=hpos HT (by simp)
    have HZ2:=hJ h3
    clear h3
    go_wp2_with fail
    replace HA:=HA.out.pT (g:=w1.heap.size) rfl t
    have H:=HA.out.bad HT.out.symm
    refine HA.out.odd ?_
    go_wp2_with fail
    exact⟨rfl,Ans.badh H⟩
  ·have h4:(t.kind !=2)=true:=by rw [bne_iff_ne];exact h3
   replace HT:=hpos HT (by exact .inl h3)
   have HZ2:=hJ h3
   clear h3
   go_wp2_with fail
   replace HA:=HA.out.pT (g:=w1.heap.size) rfl t
   have H:=HA.out.bad HT.out.symm
   refine HA.out.odd ?_
   go_wp2_with fail
   exact⟨rfl,Ans.badh H⟩
end
section
open Go.RowKit
attribute [local go_sem] ab3 ab4 ab5 ab6 ab7 ab8
attribute [local go_sem ↓] Go.wp_at_zero Go.wp_at_succ
theorem S.link {E:PE} {R:(x:Fn)→PM x.Out} (hR:Env E R) {F:Nat→Prop} {w:World} {p:Ps} (n:Nd) (calls templates:Bool) (v:Value) (hn:IsP E F w n v) (h:St E F w p) (hne:bm1 E.s R n calls templates p≠ .out):
  Calls Tryz.prog 246 #[.pointer (some ⟨E.b,0,none⟩),v,.bool calls,.bool templates] w (Ans E F X0 w (bm1 E.s R n calls templates p) fun r v w'=> ∃u,v= .tuple #[u,.bool r.2]∧IsP E F w' r.1 u):=by
 obtain⟨T,hT⟩: ∃T,bm1 E.s R n calls templates p=T:=⟨_,rfl⟩
 rw [hT] at hne⊢
 unfold bm1 at hT
 have HT:=hJ hT
 have HN:=hJ hne
 obtain⟨an,cn,rfl,hn0⟩:=hn.form
 have HA:=Sa.start1 (X:=X0) h hn0
 clear h hne hT hn hn0
 go_enter Tryz.func246,Tryz.ntmps246
 go_wp2_with fail
 replace HA:=HA.out.pN (g:=w.heap.size) rfl n an cn
 replace HA:=HA.out.pZ (g:=(w.heap.size+1)) (by simp)
 refine HA.out.stepV HT HN (fun _ h e=>P.peek hR.ok 1 h.s e) ?_ ?_
 ·intro _ _ _ H;go_wp2_with fail;exact⟨rfl,Ans.badh H⟩
 clear HT HA
 intro t q1 w1 HT HA
 obtain⟨zr,zn,-⟩:=HA.out.fs
 have yr:=HA.out.fw 0 rfl
 go_wp2_with fail
 replace HA:=HA.out.pT (g:=w1.heap.size) rfl t
 refine HA.out.stepQ (fun _ h=>P.punct t ⟨#[46]⟩ _) ?_
 clear zr zn yr HA
 intro w2 HA
 obtain⟨zt,zr,zn,-⟩:=HA.out.fs
 have yr:=HA.out.fw 1 rfl
 cases hc:aa2 t ⟨#[46]⟩ with
 |true=>
  replace HT:=hpos HT (by rw [hc])
  go_wp2_with fail
  refine HA.out.stepV HT HN (fun _ h e=>P.take hR.ok h.s e) ?_ ?_
  ·intro _ _ _ H;go_wp2_with fail;exact⟨rfl,Ans.badh H⟩
  clear zt zr zn yr HT HA
  intro _ q3 w3 HT HA
  obtain⟨zt,zr,zn,-⟩:=HA.out.fs
  have yr:=HA.out.fw 1 rfl
  obtain⟨pv,hpv⟩: ∃b:Bool,(decide (n.kind≠6)||decide (n.text≠⟨#[115,117,112,101,114]⟩))=b:=⟨_,rfl⟩
  rw [hpv] at HT
  by_cases hk6:n.kind=6
  ·have h6:(n.kind !=6)=false:=by rw [hk6];rfl
   have h7:=bt n.text [115,117,112,101,114]
   have h8:(!decide (n.text=⟨#[115,117,112,101,114]⟩))=pv:=by rw [←hpv];simp [hk6]
   have HZ:=hJ hk6
   clear hk6
   go_wp2_with fail
   refine HA.out.stepN HT HN (fun _ h e=>S.property hR pv h.s e) ?_ ?_
   ·intro _ _ _ H;go_wp2_with fail;exact⟨rfl,Ans.badh H⟩
   clear zt zr zn yr HT HA
   intro k ak ck q4 w4 HT HA
   obtain⟨zt,zr,zn,-⟩:=HA.out.fs
   have yr:=HA.out.fw 1 rfl
   go_wp2_with fail
   replace HA:=HA.out.pN (g:=w4.heap.size) rfl k ak ck
   refine HA.out.node 38 ⟨#[]⟩ n.from' [(n,an,cn),(k,ak,ck)] (by simp) rfl (by simp) rfl rfl HT ?_
   clear zt zr zn yr HT HA
   intro m am cm w5 _ HT HA
   obtain⟨zk,zt,zr,zn,-⟩:=HA.out.fs
   have yr:=HA.out.fw 2 rfl
   go_wp2_with fail
   exact HA.out.fin_nb 2 0 rfl rfl rfl rfl rfl rfl HT.out.symm
  ·have h6:(n.kind !=6)=true:=by rw [bne_iff_ne];exact hk6
   obtain rfl:pv=true:=by rw [←hpv];simp [hk6]
   have HZ:=hJ hk6
   clear hk6 hpv
   go_wp2_with fail
   refine HA.out.stepN HT HN (fun _ h e=>S.property hR true h.s e) ?_ ?_
   ·intro _ _ _ H;go_wp2_with fail;exact⟨rfl,Ans.badh H⟩
   clear zt zr zn yr HT HA
   intro k ak ck q4 w4 HT HA
   obtain⟨zt,zr,zn,-⟩:=HA.out.fs
   have yr:=HA.out.fw 1 rfl
   go_wp2_with fail
   replace HA:=HA.out.pN (g:=w4.heap.size) rfl k ak ck
   refine HA.out.node 38 ⟨#[]⟩ n.from' [(n,an,cn),(k,ak,ck)] (by simp) rfl (by simp) rfl rfl HT ?_
   clear zt zr zn yr HT HA
   intro m am cm w5 _ HT HA
   obtain⟨zk,zt,zr,zn,-⟩:=HA.out.fs
   have yr:=HA.out.fw 2 rfl
   go_wp2_with fail
   exact HA.out.fin_nb 2 0 rfl rfl rfl rfl rfl rfl HT.out.symm
 |false=>
  replace HT:=hneg HT (by rw [hc];decide)
  go_wp2_with fail
  refine HA.out.stepQ (fun _ h=>P.punct t ⟨#[91]⟩ _) ?_
  clear zt zr zn yr HA
  intro w3 HA
  obtain⟨zt,zr,zn,-⟩:=HA.out.fs
  have yr:=HA.out.fw 1 rfl
  cases hd:aa2 t ⟨#[91]⟩ with
  |true=>
   replace HT:=hpos HT (by rw [hd])
   go_wp2_with fail
   refine HA.out.stepV HT HN (fun _ h e=>P.take hR.ok h.s e) ?_ ?_
   ·intro _ _ _ H;go_wp2_with fail;exact⟨rfl,Ans.badh H⟩
   clear zt zr zn yr HT HA
   intro _ q4 w4 HT HA
   obtain⟨zt,zr,zn,-⟩:=HA.out.fs
   have yr:=HA.out.fw 1 rfl
   go_wp2_with fail
   refine HA.out.stepN HT HN (fun _ h e=>hR.h .index _ _ _ h.s e) ?_ ?_
   ·intro _ _ _ H;go_wp2_with fail;exact⟨rfl,Ans.badh H⟩
   clear zt zr zn yr HT HA
   intro k ak ck q5 w5 HT HA
   obtain⟨zt,zr,zn,-⟩:=HA.out.fs
   have yr:=HA.out.fw 1 rfl
   go_wp2_with fail
   replace HA:=HA.out.pN (g:=w5.heap.size) rfl k ak ck
   refine HA.out.node 39 ⟨#[]⟩ n.from' [(n,an,cn),(k,ak,ck)] (by simp) rfl (by simp) rfl rfl HT ?_
   clear zt zr zn yr HT HA
   intro m am cm w6 _ HT HA
   obtain⟨zk,zt,zr,zn,-⟩:=HA.out.fs
   have yr:=HA.out.fw 2 rfl
   go_wp2_with fail
   exact HA.out.fin_nb 2 0 rfl rfl rfl rfl rfl rfl HT.out.symm
  |false=>
   replace HT:=hneg HT (by rw [hd];decide)
   go_wp2_with fail
   refine HA.out.stepQ (fun _ h=>P.punct t ⟨#[40]⟩ _) ?_
   clear zt zr zn yr HA
   intro w4 HA
   obtain⟨zt,zr,zn,-⟩:=HA.out.fs
   have yr:=HA.out.fw 1 rfl
   cases hd2:aa2 t ⟨#[40]⟩ with
   |true=>
    cases calls with
    |true=>
     replace HT:=hpos HT (by rw [hd2];rfl)
     go_wp2_with fail
     refine HA.out.stepN HT HN (fun _ h e=>hR.h .args _ _ _ h.s e) ?_ ?_
     ·intro _ _ _ H;go_wp2_with fail;exact⟨rfl,Ans.badh H⟩
     clear zt zr zn yr HT HA
     intro k ak ck q5 w5 HT HA
     obtain⟨zt,zr,zn,-⟩:=HA.out.fs
     have yr:=HA.out.fw 1 rfl
     go_wp2_with fail
     replace HA:=HA.out.pN (g:=w5.heap.size) rfl k ak ck
     refine HA.out.node 35 ⟨#[]⟩ n.from' [(n,an,cn),(k,ak,ck)] (by simp) rfl (by simp) rfl rfl HT ?_
     clear zt zr zn yr HT HA
     intro m am cm w6 _ HT HA
     obtain⟨zk,zt,zr,zn,-⟩:=HA.out.fs
     have yr:=HA.out.fw 2 rfl
     go_wp2_with fail
     exact HA.out.fin_nb 2 0 rfl rfl rfl rfl rfl rfl HT.out.symm
    |false=>
     replace HT:=hneg HT (by rw [hd2];decide)
     by_cases hk7:t.kind=7
     ·have h7:(t.kind==7)=true:=by rw [beq_iff_eq];exact hk7
      replace HT:=hpos HT (by exact .inl hk7)
      cases templates with
      |true=>
       replace HT:=hpos HT (by rfl)
       go_wp2_with fail
       refine HA.out.stepN HT HN (fun _ h e=>hR.h (.template true) _ _ _ h.s e) ?_ ?_
       ·intro _ _ _ H;go_wp2_with fail;exact⟨rfl,Ans.badh H⟩
       clear zt zr zn yr HT HA
       intro k ak ck q5 w5 HT HA
       obtain⟨zt,zr,zn,-⟩:=HA.out.fs
       have yr:=HA.out.fw 1 rfl
       go_wp2_with fail
       replace HA:=HA.out.pN (g:=w5.heap.size) rfl k ak ck
       refine HA.out.node 10 ⟨#[]⟩ n.from' [(n,an,cn),(k,ak,ck)] (by simp) rfl (by simp) rfl rfl HT ?_
       clear zt zr zn yr HT HA
       intro m am cm w6 _ HT HA
       obtain⟨zk,zt,zr,zn,-⟩:=HA.out.fs
       have yr:=HA.out.fw 2 rfl
       go_wp2_with fail
       exact HA.out.fin_nb 2 0 rfl rfl rfl rfl rfl rfl HT.out.symm
      |false=>
       replace HT:=hneg HT (by decide)
       go_wp2_with fail
       have H:=HA.out.bad HT.out.symm
       refine HA.out.odd ?_
       go_wp2_with fail
       exact⟨rfl,Ans.badh H⟩
     ·have h7:(t.kind==7)=false:=by rw [beq_eq_false_iff_ne];exact hk7
      by_cases hk8:t.kind=8
      ·have h8:(t.kind==8)=true:=by rw [beq_iff_eq];exact hk8
       replace HT:=hpos HT (by exact .inr hk8)
       cases templates with
       |true=>
        replace HT:=hpos HT (by rfl)
        go_wp2_with fail
        refine HA.out.stepN HT HN (fun _ h e=>hR.h (.template true) _ _ _ h.s e) ?_ ?_
        ·intro _ _ _ H;go_wp2_with fail;exact⟨rfl,Ans.badh H⟩
        clear zt zr zn yr HT HA
        intro k ak ck q5 w5 HT HA
        obtain⟨zt,zr,zn,-⟩:=HA.out.fs
        have yr:=HA.out.fw 1 rfl
        go_wp2_with fail
        replace HA:=HA.out.pN (g:=w5.heap.size) rfl k ak ck
        refine HA.out.node 10 ⟨#[]⟩ n.from' [(n,an,cn),(k,ak,ck)] (by simp) rfl (by simp) rfl rfl HT ?_
        clear zt zr zn yr HT HA
        intro m am cm w6 _ HT HA
        obtain⟨zk,zt,zr,zn,-⟩:=HA.out.fs
        have yr:=HA.out.fw 2 rfl
        go_wp2_with fail
        exact HA.out.fin_nb 2 0 rfl rfl rfl rfl rfl rfl HT.out.symm
       |false=>
        replace HT:=hneg HT (by decide)
        go_wp2_with fail
        have H:=HA.out.bad HT.out.symm
        refine HA.out.odd ?_
        go_wp2_with fail
        exact⟨rfl,Ans.badh H⟩
      ·have h8:(t.kind==8)=false:=by rw [beq_eq_false_iff_ne];exact hk8
       replace HT:=hneg HT (by exact fun h=>h.elim hk7 hk8)
       have HZ:=hJ hk7
       have HZ2:=hJ hk8
       clear hk7 hk8
       go_wp2_with fail
       exact HA.out.fin_nb 1 0 rfl rfl rfl rfl rfl rfl HT.out.symm
   |false=>
    replace HT:=hneg HT (by rw [hd2];simp)
    by_cases hk7:t.kind=7
    ·have h7:(t.kind==7)=true:=by rw [beq_iff_eq];exact hk7
     replace HT:=hpos HT (by exact .inl hk7)
     cases templates with
     |true=>
      replace HT:=hpos HT (by rfl)
      go_wp2_with fail
      refine HA.out.stepN HT HN (fun _ h e=>hR.h (.template true) _ _ _ h.s e) ?_ ?_
      ·intro _ _ _ H;go_wp2_with fail;exact⟨rfl,Ans.badh H⟩
      clear zt zr zn yr HT HA
      intro k ak ck q5 w5 HT HA
      obtain⟨zt,zr,zn,-⟩:=HA.out.fs
      have yr:=HA.out.fw 1 rfl
      go_wp2_with fail
      replace HA:=HA.out.pN (g:=w5.heap.size) rfl k ak ck
      refine HA.out.node 10 ⟨#[]⟩ n.from' [(n,an,cn),(k,ak,ck)] (by simp) rfl (by simp) rfl rfl HT ?_
      clear zt zr zn yr HT HA
      intro m am cm w6 _ HT HA
      obtain⟨zk,zt,zr,zn,-⟩:=HA.out.fs
      have yr:=HA.out.fw 2 rfl
      go_wp2_with fail
      exact HA.out.fin_nb 2 0 rfl rfl rfl rfl rfl rfl HT.out.symm
     |false=>
      replace HT:=hneg HT (by decide)
      go_wp2_with fail
      have H:=HA.out.bad HT.out.symm
      refine HA.out.odd ?_
      go_wp2_with fail
      exact⟨rfl,Ans.badh H⟩
    ·have h7:(t.kind==7)=false:=by rw [beq_eq_false_iff_ne];exact hk7
     by_cases hk8:t.kind=8
     ·have h8:(t.kind==8)=true:=by rw [beq_iff_eq];exact hk8
      replace HT:=hpos HT (by exact .inr hk8)
      cases templates with
      |true=>
       replace HT:=hpos HT (by rfl)
       go_wp2_with fail
       refine HA.out.stepN HT HN (fun _ h e=>hR.h (.template true) _ _ _ h.s e) ?_ ?_
       ·intro _ _ _ H;go_wp2_with fail;exact⟨rfl,Ans.badh H⟩
       clear zt zr zn yr HT HA
       intro k ak ck q5 w5 HT HA
       obtain⟨zt,zr,zn,-⟩:=HA.out.fs
       have yr:=HA.out.fw 1 rfl
       go_wp2_with fail
       replace HA:=HA.out.pN (g:=w5.heap.size) rfl k ak ck
       refine HA.out.node 10 ⟨#[]⟩ n.from' [(n,an,cn),(k,ak,ck)] (by simp) rfl (by simp) rfl rfl HT ?_
       clear zt zr zn yr HT HA
       intro m am cm w6 _ HT HA
       obtain⟨zk,zt,zr,zn,-⟩:=HA.out.fs
       have yr:=HA.out.fw 2 rfl
       go_wp2_with fail
       exact HA.out.fin_nb 2 0 rfl rfl rfl rfl rfl rfl HT.out.symm
      |false=>
       replace HT:=hneg HT (by decide)
       go_wp2_with fail
       have H:=HA.out.bad HT.out.symm
       refine HA.out.odd ?_
       go_wp2_with fail
       exact⟨rfl,Ans.badh H⟩
     ·have h8:(t.kind==8)=false:=by rw [beq_eq_false_iff_ne];exact hk8
      replace HT:=hneg HT (by exact fun h=>h.elim hk7 hk8)
      have HZ:=hJ hk7
      have HZ2:=hJ hk8
      clear hk7 hk8
      go_wp2_with fail
      exact HA.out.fin_nb 1 0 rfl rfl rfl rfl rfl rfl HT.out.symm
theorem S.optional {E:PE} {R:(x:Fn)→PM x.Out} (hR:Env E R) {F:Nat→Prop} {w:World} {p:Ps} (n:Nd) (v:Value) (hn:IsP E F w n v) (h:St E F w p) (hne:ar5 E.s R n p≠ .out):
  Calls Tryz.prog 277 #[.pointer (some ⟨E.b,0,none⟩),v] w (Ans E F X0 w (ar5 E.s R n p) fun n v w'=>IsP E F w' n v):=by
 obtain⟨T,hT⟩: ∃T,ar5 E.s R n p=T:=⟨_,rfl⟩
 rw [hT] at hne⊢
 unfold ar5 at hT
 have HT:=hJ hT
 have HN:=hJ hne
 obtain⟨an,cn,rfl,hn0⟩:=hn.form
 have HA:=Sa.start1 (X:=X0) h hn0
 clear h hne hT hn hn0
 go_enter Tryz.func277,Tryz.ntmps277
 go_wp2_with fail
 replace HA:=HA.out.pN (g:=w.heap.size) rfl n an cn
 replace HA:=HA.out.pZ (g:=(w.heap.size+1)) (by simp)
 refine HA.out.stepV HT HN (fun _ h e=>P.peek hR.ok 1 h.s e) ?_ ?_
 ·intro _ _ _ H;go_wp2_with fail;exact⟨rfl,Ans.badh H⟩
 clear HT HA
 intro t q1 w1 HT HA
 obtain⟨zr,zn,-⟩:=HA.out.fs
 have yr:=HA.out.fw 0 rfl
 go_wp2_with fail
 replace HA:=HA.out.pT (g:=w1.heap.size) rfl t
 refine HA.out.stepQ (fun _ h=>P.punct t ⟨#[91]⟩ _) ?_
 clear zr zn yr HA
 intro w2 HA
 obtain⟨zt,zr,zn,-⟩:=HA.out.fs
 have yr:=HA.out.fw 1 rfl
 cases hc:aa2 t ⟨#[91]⟩ with
 |true=>
  replace HT:=hpos HT (by rw [hc])
  go_wp2_with fail
  refine HA.out.stepV HT HN (fun _ h e=>P.take hR.ok h.s e) ?_ ?_
  ·intro _ _ _ H;go_wp2_with fail;exact⟨rfl,Ans.badh H⟩
  clear zt zr zn yr HT HA
  intro _ q3 w3 HT HA
  obtain⟨zt,zr,zn,-⟩:=HA.out.fs
  have yr:=HA.out.fw 1 rfl
  go_wp2_with fail
  refine HA.out.stepN HT HN (fun _ h e=>hR.h .index _ _ _ h.s e) ?_ ?_
  ·intro _ _ _ H;go_wp2_with fail;exact⟨rfl,Ans.badh H⟩
  clear zt zr zn yr HT HA
  intro k ak ck q4 w4 HT HA
  obtain⟨zt,zr,zn,-⟩:=HA.out.fs
  have yr:=HA.out.fw 1 rfl
  go_wp2_with fail
  replace HT:=ac9 HT
  replace HA:=HA.out.pN (g:=w4.heap.size) rfl k ak ck
  refine HA.out.node 39 ⟨#[63,46]⟩ n.from' [(n,an,cn),(k,ak,ck)] (by simp) rfl (by simp) rfl rfl HT ?_
  clear zt zr zn yr HT HA
  intro m am cm w5 _ HT HA
  obtain⟨zk,zt,zr,zn,-⟩:=HA.out.fs
  have yr:=HA.out.fw 2 rfl
  go_wp2_with fail
  exact HA.out.fin_nd 2 0 rfl rfl rfl rfl rfl HT.out.symm
 |false=>
  replace HT:=hneg HT (by rw [hc];decide)
  go_wp2_with fail
  refine HA.out.stepQ (fun _ h=>P.punct t ⟨#[40]⟩ _) ?_
  clear zt zr zn yr HA
  intro w3 HA
  obtain⟨zt,zr,zn,-⟩:=HA.out.fs
  have yr:=HA.out.fw 1 rfl
  cases hd:aa2 t ⟨#[40]⟩ with
  |true=>
   replace HT:=hpos HT (by rw [hd])
   go_wp2_with fail
   refine HA.out.stepN HT HN (fun _ h e=>hR.h .args _ _ _ h.s e) ?_ ?_
   ·intro _ _ _ H;go_wp2_with fail;exact⟨rfl,Ans.badh H⟩
   clear zt zr zn yr HT HA
   intro k ak ck q4 w4 HT HA
   obtain⟨zt,zr,zn,-⟩:=HA.out.fs
   have yr:=HA.out.fw 1 rfl
   go_wp2_with fail
   replace HT:=ac9 HT
   replace HA:=HA.out.pN (g:=w4.heap.size) rfl k ak ck
   refine HA.out.node 35 ⟨#[63,46]⟩ n.from' [(n,an,cn),(k,ak,ck)] (by simp) rfl (by simp) rfl rfl HT ?_
   clear zt zr zn yr HT HA
   intro m am cm w5 _ HT HA
   obtain⟨zk,zt,zr,zn,-⟩:=HA.out.fs
   have yr:=HA.out.fw 2 rfl
   go_wp2_with fail
   exact HA.out.fin_nd 2 0 rfl rfl rfl rfl rfl HT.out.symm
  |false=>
   replace HT:=hneg HT (by rw [hd];decide)
   go_wp2_with fail
   refine HA.out.stepN HT HN (fun _ h e=>S.property hR true h.s e) ?_ ?_
   ·intro _ _ _ H;go_wp2_with fail;exact⟨rfl,Ans.badh H⟩
   clear zt zr zn yr HT HA
   intro k ak ck q4 w4 HT HA
   obtain⟨zt,zr,zn,-⟩:=HA.out.fs
   have yr:=HA.out.fw 1 rfl
   go_wp2_with fail
   replace HT:=ac9 HT
   replace HA:=HA.out.pN (g:=w4.heap.size) rfl k ak ck
   refine HA.out.node 38 ⟨#[63,46]⟩ n.from' [(n,an,cn),(k,ak,ck)] (by simp) rfl (by simp) rfl rfl HT ?_
   clear zt zr zn yr HT HA
   intro m am cm w5 _ HT HA
   obtain⟨zk,zt,zr,zn,-⟩:=HA.out.fs
   have yr:=HA.out.fw 2 rfl
   go_wp2_with fail
   exact HA.out.fin_nd 2 0 rfl rfl rfl rfl rfl HT.out.symm
end
section
open Go.RowKit
attribute [local go_sem] ab3 ab4 ab5 ab6 ab7 ab8
attribute [local go_sem ↓] Go.wp_at_zero Go.wp_at_succ
theorem S.primary {E:PE} {R:(x:Fn)→PM x.Out} (hR:Env E R) {F:Nat→Prop} {w:World} {p:Ps} (t:Tk) (h:St E F w p) (hne:aw8 R t p≠ .out):
  Calls Tryz.prog 273 #[.pointer (some ⟨E.b,0,none⟩),.agg #[.int .i64 t.kind,.string t.text,.int .i64 t.from',.int .i64 t.till,.bool t.line]] w (Ans E F X0 w (aw8 R t p) fun n v w'=>IsP E F w' n v):=by
 obtain⟨T,hT⟩: ∃T,aw8 R t p=T:=⟨_,rfl⟩
 rw [hT] at hne⊢
 unfold aw8 at hT
 have HT:=hJ hT
 have HN:=hJ hne
 have HA:=Sa.start0 (X:=X0) h
 clear h hne hT
 by_cases hk3:t.kind=3
 ·have hkk3:(t.kind==3)=true:=by rw [beq_iff_eq];exact hk3
  replace HT:=hpos HT (by exact .inl hk3)
  rw [hk3] at HT
  have HZ3:=hJ hk3
  clear hk3
  go_enter Tryz.func273,Tryz.ntmps273
  go_wp2_with fail
  replace HA:=HA.out.pT (g:=w.heap.size) rfl t
  replace HA:=HA.out.pZ (g:=(w.heap.size+1)) (by simp)
  refine HA.out.stepV HT HN (fun _ h e=>P.take hR.ok h.s e) ?_ ?_
  ·intro _ _ _ H;go_wp2_with fail;exact⟨rfl,Ans.badh H⟩
  clear HT HA
  intro u q1 w1 HT HA
  obtain⟨zr,zt,-⟩:=HA.out.fs
  have yr:=HA.out.fw 0 rfl
  go_wp2_with fail
  refine HA.out.leaf 3 u ?_
  clear zr zt yr HA
  intro n an cn w2 HE HA
  rw [HE.out] at HT
  clear HE
  obtain⟨zr,zt,-⟩:=HA.out.fs
  have yr:=HA.out.fw 0 rfl
  go_wp2_with fail
  exact HA.out.fin_nd 0 0 rfl rfl rfl rfl rfl HT.out.symm
 ·have hkk3:(t.kind==3)=false:=by rw [beq_eq_false_iff_ne];exact hk3
  by_cases hk4:t.kind=4
  ·have hkk4:(t.kind==4)=true:=by rw [beq_iff_eq];exact hk4
   replace HT:=hpos HT (by exact .inr hk4)
   rw [hk4] at HT
   have HZ3:=hJ hk3
   clear hk3
   have HZ4:=hJ hk4
   clear hk4
   go_enter Tryz.func273,Tryz.ntmps273
   go_wp2_with fail
   replace HA:=HA.out.pT (g:=w.heap.size) rfl t
   replace HA:=HA.out.pZ (g:=(w.heap.size+1)) (by simp)
   refine HA.out.stepV HT HN (fun _ h e=>P.take hR.ok h.s e) ?_ ?_
   ·intro _ _ _ H;go_wp2_with fail;exact⟨rfl,Ans.badh H⟩
   clear HT HA
   intro u q1 w1 HT HA
   obtain⟨zr,zt,-⟩:=HA.out.fs
   have yr:=HA.out.fw 0 rfl
   go_wp2_with fail
   refine HA.out.leaf 4 u ?_
   clear zr zt yr HA
   intro n an cn w2 HE HA
   rw [HE.out] at HT
   clear HE
   obtain⟨zr,zt,-⟩:=HA.out.fs
   have yr:=HA.out.fw 0 rfl
   go_wp2_with fail
   exact HA.out.fin_nd 0 0 rfl rfl rfl rfl rfl HT.out.symm
  ·have hkk4:(t.kind==4)=false:=by rw [beq_eq_false_iff_ne];exact hk4
   replace HT:=hneg HT (by exact fun h=>h.elim hk3 hk4)
   by_cases hk6:t.kind=6
   ·have hkk6:(t.kind==6)=true:=by rw [beq_iff_eq];exact hk6
    replace HT:=hpos HT (by exact hk6)
    have HZ3:=hJ hk3
    clear hk3
    have HZ4:=hJ hk4
    clear hk4
    have HZ6:=hJ hk6
    clear hk6
    go_enter Tryz.func273,Tryz.ntmps273
    go_wp2_with fail
    replace HA:=HA.out.pT (g:=w.heap.size) rfl t
    replace HA:=HA.out.pZ (g:=(w.heap.size+1)) (by simp)
    refine HA.out.stepV HT HN (fun _ h e=>P.take hR.ok h.s e) ?_ ?_
    ·intro _ _ _ H;go_wp2_with fail;exact⟨rfl,Ans.badh H⟩
    clear HT HA
    intro u q1 w1 HT HA
    obtain⟨zr,zt,-⟩:=HA.out.fs
    have yr:=HA.out.fw 0 rfl
    go_wp2_with fail
    refine HA.out.leaf 5 u ?_
    clear zr zt yr HA
    intro n an cn w2 HE HA
    rw [HE.out] at HT
    clear HE
    obtain⟨zr,zt,-⟩:=HA.out.fs
    have yr:=HA.out.fw 0 rfl
    go_wp2_with fail
    exact HA.out.fin_nd 0 0 rfl rfl rfl rfl rfl HT.out.symm
   ·have hkk6:(t.kind==6)=false:=by rw [beq_eq_false_iff_ne];exact hk6
    replace HT:=hneg HT (by exact hk6)
    by_cases hk7:t.kind=7
    ·have hkk7:(t.kind==7)=true:=by rw [beq_iff_eq];exact hk7
     replace HT:=hpos HT (by exact .inl hk7)
     have HZ3:=hJ hk3
     clear hk3
     have HZ4:=hJ hk4
     clear hk4
     have HZ6:=hJ hk6
     clear hk6
     have HZ7:=hJ hk7
     clear hk7
     replace HT:=ac9 HT
     go_enter Tryz.func273,Tryz.ntmps273
     go_wp2_with fail
     replace HA:=HA.out.pT (g:=w.heap.size) rfl t
     replace HA:=HA.out.pZ (g:=(w.heap.size+1)) (by simp)
     refine HA.out.stepN HT HN (fun _ h e=>hR.h (.template false) _ _ _ h.s e) ?_ ?_
     ·intro _ _ _ H;go_wp2_with fail;exact⟨rfl,Ans.badh H⟩
     clear HT HA
     intro n an cn q1 w1 HT HA
     obtain⟨zr,zt,-⟩:=HA.out.fs
     have yr:=HA.out.fw 0 rfl
     go_wp2_with fail
     exact HA.out.fin_nd 0 0 rfl rfl rfl rfl rfl HT.out.symm
    ·have hkk7:(t.kind==7)=false:=by rw [beq_eq_false_iff_ne];exact hk7
     by_cases hk8:t.kind=8
     ·have hkk8:(t.kind==8)=true:=by rw [beq_iff_eq];exact hk8
      replace HT:=hpos HT (by exact .inr hk8)
      have HZ3:=hJ hk3
      clear hk3
      have HZ4:=hJ hk4
      clear hk4
      have HZ6:=hJ hk6
      clear hk6
      have HZ7:=hJ hk7
      clear hk7
      have HZ8:=hJ hk8
      clear hk8
      replace HT:=ac9 HT
      go_enter Tryz.func273,Tryz.ntmps273
      go_wp2_with fail
      replace HA:=HA.out.pT (g:=w.heap.size) rfl t
      replace HA:=HA.out.pZ (g:=(w.heap.size+1)) (by simp)
      refine HA.out.stepN HT HN (fun _ h e=>hR.h (.template false) _ _ _ h.s e) ?_ ?_
      ·intro _ _ _ H;go_wp2_with fail;exact⟨rfl,Ans.badh H⟩
      clear HT HA
      intro n an cn q1 w1 HT HA
      obtain⟨zr,zt,-⟩:=HA.out.fs
      have yr:=HA.out.fw 0 rfl
      go_wp2_with fail
      exact HA.out.fin_nd 0 0 rfl rfl rfl rfl rfl HT.out.symm
     ·have hkk8:(t.kind==8)=false:=by rw [beq_eq_false_iff_ne];exact hk8
      replace HT:=hneg HT (by exact fun h=>h.elim hk7 hk8)
      by_cases hk1:t.kind=1
      ·have hkk1:(t.kind==1)=true:=by rw [beq_iff_eq];exact hk1
       replace HT:=hpos HT (by exact hk1)
       have HZ3:=hJ hk3
       clear hk3
       have HZ4:=hJ hk4
       clear hk4
       have HZ6:=hJ hk6
       clear hk6
       have HZ7:=hJ hk7
       clear hk7
       have HZ8:=hJ hk8
       clear hk8
       have HZ1:=hJ hk1
       clear hk1
       replace HT:=ac9 HT
       go_enter Tryz.func273,Tryz.ntmps273
       go_wp2_with fail
       replace HA:=HA.out.pT (g:=w.heap.size) rfl t
       replace HA:=HA.out.pZ (g:=(w.heap.size+1)) (by simp)
       refine HA.out.stepN HT HN (fun _ h e=>hR.h (.named t) _ _ _ h.s e) ?_ ?_
       ·intro _ _ _ H;go_wp2_with fail;exact⟨rfl,Ans.badh H⟩
       clear HT HA
       intro n an cn q1 w1 HT HA
       obtain⟨zr,zt,-⟩:=HA.out.fs
       have yr:=HA.out.fw 0 rfl
       go_wp2_with fail
       exact HA.out.fin_nd 0 0 rfl rfl rfl rfl rfl HT.out.symm
      ·have hkk1:(t.kind==1)=false:=by rw [beq_eq_false_iff_ne];exact hk1
       replace HT:=hneg HT (by exact hk1)
       have HZ3:=hJ hk3
       clear hk3
       have HZ4:=hJ hk4
       clear hk4
       have HZ6:=hJ hk6
       clear hk6
       have HZ7:=hJ hk7
       clear hk7
       have HZ8:=hJ hk8
       clear hk8
       have HZ1:=hJ hk1
       clear hk1
       go_enter Tryz.func273,Tryz.ntmps273
       go_wp2_with fail
       replace HA:=HA.out.pT (g:=w.heap.size) rfl t
       replace HA:=HA.out.pZ (g:=(w.heap.size+1)) (by simp)
       refine HA.out.stepQ (fun _ h=>P.punct t ⟨#[91]⟩ _) ?_
       clear HA
       intro w1 HA
       obtain⟨zr,zt,-⟩:=HA.out.fs
       have yr:=HA.out.fw 0 rfl
       cases hc3:aa2 t ⟨#[91]⟩ with
       |true=>
        replace HT:=hpos HT (by rw [hc3])
        go_wp2_with fail
        replace HT:=ac9 HT
        refine HA.out.stepN HT HN (fun _ h e=>hR.h .array _ _ _ h.s e) ?_ ?_
        ·intro _ _ _ H;go_wp2_with fail;exact⟨rfl,Ans.badh H⟩
        clear zr zt yr HT HA
        intro n an cn q2 w2 HT HA
        obtain⟨zr,zt,-⟩:=HA.out.fs
        have yr:=HA.out.fw 0 rfl
        go_wp2_with fail
        exact HA.out.fin_nd 0 0 rfl rfl rfl rfl rfl HT.out.symm
       |false=>
        replace HT:=hneg HT (by rw [hc3];decide)
        go_wp2_with fail
        refine HA.out.stepQ (fun _ h=>P.punct t ⟨#[123]⟩ _) ?_
        clear zr zt yr HA
        intro w2 HA
        obtain⟨zr,zt,-⟩:=HA.out.fs
        have yr:=HA.out.fw 0 rfl
        cases hc2:aa2 t ⟨#[123]⟩ with
        |true=>
         replace HT:=hpos HT (by rw [hc2])
         go_wp2_with fail
         replace HT:=ac9 HT
         refine HA.out.stepN HT HN (fun _ h e=>hR.h .object _ _ _ h.s e) ?_ ?_
         ·intro _ _ _ H;go_wp2_with fail;exact⟨rfl,Ans.badh H⟩
         clear zr zt yr HT HA
         intro n an cn q3 w3 HT HA
         obtain⟨zr,zt,-⟩:=HA.out.fs
         have yr:=HA.out.fw 0 rfl
         go_wp2_with fail
         exact HA.out.fin_nd 0 0 rfl rfl rfl rfl rfl HT.out.symm
        |false=>
         replace HT:=hneg HT (by rw [hc2];decide)
         go_wp2_with fail
         refine HA.out.stepQ (fun _ h=>P.punct t ⟨#[40]⟩ _) ?_
         clear zr zt yr HA
         intro w3 HA
         obtain⟨zr,zt,-⟩:=HA.out.fs
         have yr:=HA.out.fw 0 rfl
         cases hc1:aa2 t ⟨#[40]⟩ with
         |true=>
          replace HT:=hpos HT (by rw [hc1])
          go_wp2_with fail
          replace HT:=ac9 HT
          refine HA.out.stepN HT HN (fun _ h e=>hR.h (.paren t) _ _ _ h.s e) ?_ ?_
          ·intro _ _ _ H;go_wp2_with fail;exact⟨rfl,Ans.badh H⟩
          clear zr zt yr HT HA
          intro n an cn q4 w4 HT HA
          obtain⟨zr,zt,-⟩:=HA.out.fs
          have yr:=HA.out.fw 0 rfl
          go_wp2_with fail
          exact HA.out.fin_nd 0 0 rfl rfl rfl rfl rfl HT.out.symm
         |false=>
          replace HT:=hneg HT (by rw [hc1];decide)
          go_wp2_with fail
          refine HA.out.stepQ (fun _ h=>P.punct t ⟨#[60]⟩ _) ?_
          clear zr zt yr HA
          intro w4 HA
          obtain⟨zr,zt,-⟩:=HA.out.fs
          have yr:=HA.out.fw 0 rfl
          cases hc0:aa2 t ⟨#[60]⟩ with
          |true=>
           replace HT:=hpos HT (by rw [hc0])
           go_wp2_with fail
           replace HT:=ac9 HT
           refine HA.out.stepN HT HN (fun _ h e=>hR.h .element1 _ _ _ h.s e) ?_ ?_
           ·intro _ _ _ H;go_wp2_with fail;exact⟨rfl,Ans.badh H⟩
           clear zr zt yr HT HA
           intro n an cn q5 w5 HT HA
           obtain⟨zr,zt,-⟩:=HA.out.fs
           have yr:=HA.out.fw 0 rfl
           go_wp2_with fail
           exact HA.out.fin_nd 0 0 rfl rfl rfl rfl rfl HT.out.symm
          |false=>
           replace HT:=hneg HT (by rw [hc0];decide)
           go_wp2_with fail
           have H:=HA.out.bad HT.out.symm
           refine HA.out.odd ?_
           go_wp2_with fail
           exact⟨rfl,Ans.badh H⟩
end
section
open Go.RowKit
attribute [local go_sem] ab3 ab4 ab5 ab6 ab7 ab8
attribute [local go_sem ↓] Go.wp_at_zero Go.wp_at_succ
theorem S.named {E:PE} {R:(x:Fn)→PM x.Out} (hR:Env E R) {F:Nat→Prop} {w:World} {p:Ps} (t:Tk) (h:St E F w p) (hne:aP3 E.s E.m R t p≠ .out):
  Calls Tryz.prog 295 #[.pointer (some ⟨E.b,0,none⟩),.agg #[.int .i64 t.kind,.string t.text,.int .i64 t.from',.int .i64 t.till,.bool t.line]] w (Ans E F X0 w (aP3 E.s E.m R t p) fun n v w'=>IsP E F w' n v):=by
 obtain⟨T,hT⟩: ∃T,aP3 E.s E.m R t p=T:=⟨_,rfl⟩
 rw [hT] at hne⊢
 unfold aP3 at hT
 have HT:=hJ hT
 have HN:=hJ hne
 have HA:=Sa.start0 (X:=X0) h
 clear h hne hT
 by_cases h0:t.text=⟨#[116,104,105,115]⟩
 ·have h0w:(t.text.toList== [116,104,105,115])=true:=xt h0
  replace HT:=hpos HT (by rw [h0];decide+kernel)
  have h0':=hJ h0
  clear h0
  go_enter Tryz.func295,Tryz.ntmps295
  go_wp2_with fail
  replace HA:=HA.out.pT (g:=w.heap.size) rfl t
  replace HA:=HA.out.pZ (g:=(w.heap.size+1)) (by simp)
  refine HA.out.stepV HT HN (fun _ h e=>P.take hR.ok h.s e) ?_ ?_
  ·intro _ _ _ H;go_wp2_with fail;exact⟨rfl,Ans.badh H⟩
  clear HT HA
  intro u q1 w1 HT HA
  obtain⟨zr,zt,-⟩:=HA.out.fs
  have yr:=HA.out.fw 0 rfl
  go_wp2_with fail
  refine HA.out.leaf 6 u ?_
  clear zr zt yr HA
  intro n an cn w2 HE HA
  rw [HE.out] at HT
  clear HE
  obtain⟨zr,zt,-⟩:=HA.out.fs
  have yr:=HA.out.fw 0 rfl
  go_wp2_with fail
  exact HA.out.fin_nd 0 0 rfl rfl rfl rfl rfl HT.out.symm
 ·have h0w:(t.text.toList== [116,104,105,115])=false:=xf h0
  by_cases h1:t.text=⟨#[110,117,108,108]⟩
  ·have h1w:(t.text.toList== [110,117,108,108])=true:=xt h1
   replace HT:=hpos HT (by rw [h1];decide+kernel)
   have h0':=hJ h0
   clear h0
   have h1':=hJ h1
   clear h1
   go_enter Tryz.func295,Tryz.ntmps295
   go_wp2_with fail
   replace HA:=HA.out.pT (g:=w.heap.size) rfl t
   replace HA:=HA.out.pZ (g:=(w.heap.size+1)) (by simp)
   refine HA.out.stepV HT HN (fun _ h e=>P.take hR.ok h.s e) ?_ ?_
   ·intro _ _ _ H;go_wp2_with fail;exact⟨rfl,Ans.badh H⟩
   clear HT HA
   intro u q1 w1 HT HA
   obtain⟨zr,zt,-⟩:=HA.out.fs
   have yr:=HA.out.fw 0 rfl
   go_wp2_with fail
   refine HA.out.leaf 6 u ?_
   clear zr zt yr HA
   intro n an cn w2 HE HA
   rw [HE.out] at HT
   clear HE
   obtain⟨zr,zt,-⟩:=HA.out.fs
   have yr:=HA.out.fw 0 rfl
   go_wp2_with fail
   exact HA.out.fin_nd 0 0 rfl rfl rfl rfl rfl HT.out.symm
  ·have h1w:(t.text.toList== [110,117,108,108])=false:=xf h1
   by_cases h2:t.text=⟨#[116,114,117,101]⟩
   ·have h2w:(t.text.toList== [116,114,117,101])=true:=xt h2
    replace HT:=hpos HT (by rw [h2];decide+kernel)
    have h0':=hJ h0
    clear h0
    have h1':=hJ h1
    clear h1
    have h2':=hJ h2
    clear h2
    go_enter Tryz.func295,Tryz.ntmps295
    go_wp2_with fail
    replace HA:=HA.out.pT (g:=w.heap.size) rfl t
    replace HA:=HA.out.pZ (g:=(w.heap.size+1)) (by simp)
    refine HA.out.stepV HT HN (fun _ h e=>P.take hR.ok h.s e) ?_ ?_
    ·intro _ _ _ H;go_wp2_with fail;exact⟨rfl,Ans.badh H⟩
    clear HT HA
    intro u q1 w1 HT HA
    obtain⟨zr,zt,-⟩:=HA.out.fs
    have yr:=HA.out.fw 0 rfl
    go_wp2_with fail
    refine HA.out.leaf 6 u ?_
    clear zr zt yr HA
    intro n an cn w2 HE HA
    rw [HE.out] at HT
    clear HE
    obtain⟨zr,zt,-⟩:=HA.out.fs
    have yr:=HA.out.fw 0 rfl
    go_wp2_with fail
    exact HA.out.fin_nd 0 0 rfl rfl rfl rfl rfl HT.out.symm
   ·have h2w:(t.text.toList== [116,114,117,101])=false:=xf h2
    by_cases h3:t.text=⟨#[102,97,108,115,101]⟩
    ·have h3w:(t.text.toList== [102,97,108,115,101])=true:=xt h3
     replace HT:=hpos HT (by rw [h3];decide+kernel)
     have h0':=hJ h0
     clear h0
     have h1':=hJ h1
     clear h1
     have h2':=hJ h2
     clear h2
     have h3':=hJ h3
     clear h3
     go_enter Tryz.func295,Tryz.ntmps295
     go_wp2_with fail
     replace HA:=HA.out.pT (g:=w.heap.size) rfl t
     replace HA:=HA.out.pZ (g:=(w.heap.size+1)) (by simp)
     refine HA.out.stepV HT HN (fun _ h e=>P.take hR.ok h.s e) ?_ ?_
     ·intro _ _ _ H;go_wp2_with fail;exact⟨rfl,Ans.badh H⟩
     clear HT HA
     intro u q1 w1 HT HA
     obtain⟨zr,zt,-⟩:=HA.out.fs
     have yr:=HA.out.fw 0 rfl
     go_wp2_with fail
     refine HA.out.leaf 6 u ?_
     clear zr zt yr HA
     intro n an cn w2 HE HA
     rw [HE.out] at HT
     clear HE
     obtain⟨zr,zt,-⟩:=HA.out.fs
     have yr:=HA.out.fw 0 rfl
     go_wp2_with fail
     exact HA.out.fin_nd 0 0 rfl rfl rfl rfl rfl HT.out.symm
    ·have h3w:(t.text.toList== [102,97,108,115,101])=false:=xf h3
     replace HT:=hneg HT (by simp [ao0,h0,h1,h2,h3])
     have h0':=hJ h0
     clear h0
     have h1':=hJ h1
     clear h1
     have h2':=hJ h2
     clear h2
     have h3':=hJ h3
     clear h3
     by_cases h4:t.text=⟨#[102,117,110,99,116,105,111,110]⟩
     ·have h4w:(t.text.toList== [102,117,110,99,116,105,111,110])=true:=xt h4
      replace HT:=hpos HT (by exact h4)
      have h4':=hJ h4
      clear h4
      replace HT:=ac9 HT
      go_enter Tryz.func295,Tryz.ntmps295
      go_wp2_with fail
      replace HA:=HA.out.pT (g:=w.heap.size) rfl t
      replace HA:=HA.out.pZ (g:=(w.heap.size+1)) (by simp)
      refine HA.out.stepN HT HN (fun _ h e=>hR.h (.funcs false) _ _ _ h.s e) ?_ ?_
      ·intro _ _ _ H;go_wp2_with fail;exact⟨rfl,Ans.badh H⟩
      clear HT HA
      intro n an cn q1 w1 HT HA
      obtain⟨zr,zt,-⟩:=HA.out.fs
      have yr:=HA.out.fw 0 rfl
      go_wp2_with fail
      exact HA.out.fin_nd 0 0 rfl rfl rfl rfl rfl HT.out.symm
     ·have h4w:(t.text.toList== [102,117,110,99,116,105,111,110])=false:=xf h4
      replace HT:=hneg HT (by exact h4)
      have h4':=hJ h4
      clear h4
      by_cases h5:t.text=⟨#[99,108,97,115,115]⟩
      ·have h5w:(t.text.toList== [99,108,97,115,115])=true:=xt h5
       replace HT:=hpos HT (by exact h5)
       have h5':=hJ h5
       clear h5
       replace HT:=ac9 HT
       go_enter Tryz.func295,Tryz.ntmps295
       go_wp2_with fail
       replace HA:=HA.out.pT (g:=w.heap.size) rfl t
       replace HA:=HA.out.pZ (g:=(w.heap.size+1)) (by simp)
       refine HA.out.stepN HT HN (fun _ h e=>hR.h (.cls false) _ _ _ h.s e) ?_ ?_
       ·intro _ _ _ H;go_wp2_with fail;exact⟨rfl,Ans.badh H⟩
       clear HT HA
       intro n an cn q1 w1 HT HA
       obtain⟨zr,zt,-⟩:=HA.out.fs
       have yr:=HA.out.fw 0 rfl
       go_wp2_with fail
       exact HA.out.fin_nd 0 0 rfl rfl rfl rfl rfl HT.out.symm
      ·have h5w:(t.text.toList== [99,108,97,115,115])=false:=xf h5
       replace HT:=hneg HT (by exact h5)
       have h5':=hJ h5
       clear h5
       by_cases h6:t.text=⟨#[97,115,121,110,99]⟩
       ·have h6w:(t.text.toList== [97,115,121,110,99])=true:=xt h6
        replace HT:=hpos HT (by exact h6)
        have h6':=hJ h6
        clear h6
        go_enter Tryz.func295,Tryz.ntmps295
        go_wp2_with fail
        replace HA:=HA.out.pT (g:=w.heap.size) rfl t
        replace HA:=HA.out.pZ (g:=(w.heap.size+1)) (by simp)
        refine HA.out.look hR.ok t.till HT HN ?_
        clear HT HA
        intro next w1 HT HA
        obtain⟨zr,zt,-⟩:=HA.out.fs
        have yr:=HA.out.fw 0 rfl
        go_wp2_with fail
        replace HA:=HA.out.pT (g:=w1.heap.size) rfl next
        refine HA.out.stepQ (fun _ h=>P.name next ⟨#[102,117,110,99,116,105,111,110]⟩ _) ?_
        clear zr zt yr HA
        intro w2 HA
        obtain⟨znext,zr,zt,-⟩:=HA.out.fs
        have yr:=HA.out.fw 1 rfl
        cases hd:ae7 next ⟨#[102,117,110,99,116,105,111,110]⟩ with
        |true=>
         cases hl:next.line with
         |true=>
          replace HT:=hneg HT (by rw [hd,hl];decide)
          go_wp2_with fail
          replace HT:=ac9 HT
          refine HA.out.stepN HT HN (fun _ h e=>P.takeIdent hR.ok h.s e) ?_ ?_
          ·intro _ _ _ H;go_wp2_with fail;exact⟨rfl,Ans.badh H⟩
          clear znext zr zt yr HT HA
          intro n an cn q3 w3 HT HA
          obtain⟨znext,zr,zt,-⟩:=HA.out.fs
          have yr:=HA.out.fw 1 rfl
          go_wp2_with fail
          exact HA.out.fin_nd 1 0 rfl rfl rfl rfl rfl HT.out.symm
         |false=>
          replace HT:=hpos HT (by rw [hd,hl];rfl)
          go_wp2_with fail
          replace HT:=ac9 HT
          refine HA.out.stepN HT HN (fun _ h e=>hR.h (.funcs false) _ _ _ h.s e) ?_ ?_
          ·intro _ _ _ H;go_wp2_with fail;exact⟨rfl,Ans.badh H⟩
          clear znext zr zt yr HT HA
          intro n an cn q3 w3 HT HA
          obtain⟨znext,zr,zt,-⟩:=HA.out.fs
          have yr:=HA.out.fw 1 rfl
          go_wp2_with fail
          exact HA.out.fin_nd 1 0 rfl rfl rfl rfl rfl HT.out.symm
        |false=>
         replace HT:=hneg HT (by rw [hd];simp)
         go_wp2_with fail
         replace HT:=ac9 HT
         refine HA.out.stepN HT HN (fun _ h e=>P.takeIdent hR.ok h.s e) ?_ ?_
         ·intro _ _ _ H;go_wp2_with fail;exact⟨rfl,Ans.badh H⟩
         clear znext zr zt yr HT HA
         intro n an cn q3 w3 HT HA
         obtain⟨znext,zr,zt,-⟩:=HA.out.fs
         have yr:=HA.out.fw 1 rfl
         go_wp2_with fail
         exact HA.out.fin_nd 1 0 rfl rfl rfl rfl rfl HT.out.symm
       ·have h6w:(t.text.toList== [97,115,121,110,99])=false:=xf h6
        replace HT:=hneg HT (by exact h6)
        have h6':=hJ h6
        clear h6
        go_enter Tryz.func295,Tryz.ntmps295
        go_wp2_with fail
        replace HT:=ac9 HT
        replace HA:=HA.out.pT (g:=w.heap.size) rfl t
        replace HA:=HA.out.pZ (g:=(w.heap.size+1)) (by simp)
        refine HA.out.stepN HT HN (fun _ h e=>P.takeIdent hR.ok h.s e) ?_ ?_
        ·intro _ _ _ H;go_wp2_with fail;exact⟨rfl,Ans.badh H⟩
        clear HT HA
        intro n an cn q1 w1 HT HA
        obtain⟨zr,zt,-⟩:=HA.out.fs
        have yr:=HA.out.fw 0 rfl
        go_wp2_with fail
        exact HA.out.fin_nd 0 0 rfl rfl rfl rfl rfl HT.out.symm
end
end Go.Proofs.YtnobjeelihkjmaaGreatDoor
