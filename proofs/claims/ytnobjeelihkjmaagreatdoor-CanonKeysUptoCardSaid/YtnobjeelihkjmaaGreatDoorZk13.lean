/- Steps (Pn2 Pz Pk Re). Conditions: as stated. -/
import Derived.Test.YtnobjeelihkjmaaGreatDoorZk11
import Derived.Deep.DrawnRows
set_option maxHeartbeats 1000000
set_option maxRecDepth 100000
namespace Go.Proofs.YtnobjeelihkjmaaGreatDoor
section
open Go.RowKit
attribute [local go_sem] ab3 ab4 ab5 ab6 ab7 ab8
attribute [local go_sem ↓] Go.wp_at_zero Go.wp_at_succ
theorem C.inner1 {E:PE} {R:(x:Fn)→PM x.Out} (hR:Env E R) {pb nb:Nat} :
  CloS E (fun j=>j=nb) [(pb,false,.p E.b),(nb,true,.nb)] (InB E nb) (R .expression) 247 #[.pointer (some ⟨pb,0,none⟩),.pointer (some ⟨nb,0,none⟩)]:=by
 intro F w p h hB hd hne
 obtain⟨T,hT⟩: ∃T,R .expression p=T:=⟨_,rfl⟩
 rw [hT] at hne⊢
 have HT:=hJ hT
 have HN:=hJ hne
 have HA:=Sa.start (X:=(fun j=>j=nb)) h [] _ (fun _ h=>by cases h) hB (by simp) hd
 clear h hne hT hB hd
 replace HT:=ac9 HT
 obtain⟨zpb,znb,-⟩:=HA.out.fs
 have ynb:=HA.out.fw 1 rfl
 go_enter Tryz.func247,Tryz.ntmps247
 go_wp2_with fail
 refine HA.out.stepN HT HN (fun _ h e=>hR.h .expression _ _ _ h.s e) ?_ ?_
 ·intro _ _ _ H;go_wp2_with fail;exact⟨rfl,Ans.badh H⟩
 clear zpb znb ynb HT HA
 intro n an cn q1 w1 HT HA
 obtain⟨zpb,znb,-⟩:=HA.out.fs
 have ynb:=HA.out.fw 1 rfl
 go_wp2_with fail
 exact HA.out.fin_cl 1 0 rfl rfl rfl rfl HT.out.symm
theorem C.innerAssign1 {E:PE} {R:(x:Fn)→PM x.Out} (hR:Env E R) {pb nb:Nat} :
  CloS E (fun j=>j=nb) [(pb,false,.p E.b),(nb,true,.nb)] (InB E nb) (R .assign) 161 #[.pointer (some ⟨pb,0,none⟩),.pointer (some ⟨nb,0,none⟩)]:=by
 intro F w p h hB hd hne
 obtain⟨T,hT⟩: ∃T,R .assign p=T:=⟨_,rfl⟩
 rw [hT] at hne⊢
 have HT:=hJ hT
 have HN:=hJ hne
 have HA:=Sa.start (X:=(fun j=>j=nb)) h [] _ (fun _ h=>by cases h) hB (by simp) hd
 clear h hne hT hB hd
 replace HT:=ac9 HT
 obtain⟨zpb,znb,-⟩:=HA.out.fs
 have ynb:=HA.out.fw 1 rfl
 go_enter Tryz.func161,Tryz.ntmps161
 go_wp2_with fail
 refine HA.out.stepN HT HN (fun _ h e=>hR.h .assign _ _ _ h.s e) ?_ ?_
 ·intro _ _ _ H;go_wp2_with fail;exact⟨rfl,Ans.badh H⟩
 clear zpb znb ynb HT HA
 intro n an cn q1 w1 HT HA
 obtain⟨zpb,znb,-⟩:=HA.out.fs
 have ynb:=HA.out.fw 1 rfl
 go_wp2_with fail
 exact HA.out.fin_cl 1 0 rfl rfl rfl rfl HT.out.symm
theorem S.inner {E:PE} {R:(x:Fn)→PM x.Out} (hR:Env E R) {F:Nat→Prop} {w:World} {p:Ps} (h:St E F w p) (hne:aO3 R p≠ .out):
  Calls Tryz.prog 208 #[.pointer (some ⟨E.b,0,none⟩)] w (Ans E F X0 w (aO3 R p) fun n v w'=>IsP E F w' n v):=by
 obtain⟨T,hT⟩: ∃T,aO3 R p=T:=⟨_,rfl⟩
 rw [hT] at hne⊢
 unfold aO3 at hT
 have HT:=hJ hT
 have HN:=hJ hne
 have HA:=Sa.start0 (X:=X0) h
 clear h hne hT
 go_enter Tryz.func208,Tryz.ntmps208
 go_wp2_with fail
 replace HT:=ac9 HT
 replace HA:=HA.out.pP (g:=w.heap.size) rfl
 replace HA:=HA.out.pZ (g:=(w.heap.size+1)) (by simp)
 refine HA.out.with hR.ok 1 0 HT HN (fun _=>by kernel_rfl) (C.inner1 hR) (.tail _ (.head _)) [1,0] ⟨⟨_,_,rfl,.inl rfl⟩,⟨_,_,rfl,.inr ⟨rfl,_,_,_,_,_,_,_,rfl⟩⟩,trivial⟩ (by decide) 0 rfl ?_ ?_
 ·intro _ _ _ H;go_wp2_with fail;exact⟨rfl,Ans.badh H⟩
 clear HT HA
 intro n an cn q1 w1 HT HA
 dsimp only [ae4] at HA
 obtain⟨zr,zpb,-⟩:=HA.out.fs
 have yr:=HA.out.fw 0 rfl
 go_wp2_with fail
 exact HA.out.fin_nd 0 0 rfl rfl rfl rfl rfl HT.out.symm
theorem S.innerAssign {E:PE} {R:(x:Fn)→PM x.Out} (hR:Env E R) {F:Nat→Prop} {w:World} {p:Ps} (h:St E F w p) (hne:aj9 R p≠ .out):
  Calls Tryz.prog 88 #[.pointer (some ⟨E.b,0,none⟩)] w (Ans E F X0 w (aj9 R p) fun n v w'=>IsP E F w' n v):=by
 obtain⟨T,hT⟩: ∃T,aj9 R p=T:=⟨_,rfl⟩
 rw [hT] at hne⊢
 unfold aj9 at hT
 have HT:=hJ hT
 have HN:=hJ hne
 have HA:=Sa.start0 (X:=X0) h
 clear h hne hT
 go_enter Tryz.func88,Tryz.ntmps88
 go_wp2_with fail
 replace HT:=ac9 HT
 replace HA:=HA.out.pP (g:=w.heap.size) rfl
 replace HA:=HA.out.pZ (g:=(w.heap.size+1)) (by simp)
 refine HA.out.with hR.ok 1 0 HT HN (fun _=>by kernel_rfl) (C.innerAssign1 hR) (.tail _ (.head _)) [1,0] ⟨⟨_,_,rfl,.inl rfl⟩,⟨_,_,rfl,.inr ⟨rfl,_,_,_,_,_,_,_,rfl⟩⟩,trivial⟩ (by decide) 0 rfl ?_ ?_
 ·intro _ _ _ H;go_wp2_with fail;exact⟨rfl,Ans.badh H⟩
 clear HT HA
 intro n an cn q1 w1 HT HA
 dsimp only [ae4] at HA
 obtain⟨zr,zpb,-⟩:=HA.out.fs
 have yr:=HA.out.fw 0 rfl
 go_wp2_with fail
 exact HA.out.fin_nd 0 0 rfl rfl rfl rfl rfl HT.out.symm
end
section
open Go.RowKit
attribute [local go_sem] ab3 ab4 ab5 ab6 ab7 ab8
attribute [local go_sem ↓] Go.wp_at_zero Go.wp_at_succ
theorem S.target {E:PE} {F:Nat→Prop} {w:World} {p:Ps} (n:Nd) (v:Value) (hn:IsP E F w n v) (h:St E F w p) (hne:as1 n p≠ .out):
  Calls Tryz.prog 82 #[.pointer (some ⟨E.b,0,none⟩),v] w (Ans E F X0 w (as1 n p) fun _ v _=>v= .tuple #[]):=by
 obtain⟨T,hT⟩: ∃T,as1 n p=T:=⟨_,rfl⟩
 rw [hT] at hne⊢
 unfold as1 at hT
 have HT:=hJ hT
 have HN:=hJ hne
 obtain⟨an,cn,rfl,hn0⟩:=hn.form
 have HA:=Sa.start1 (X:=X0) h hn0
 clear h hne hT hn hn0
 go_enter Tryz.func82,Tryz.ntmps82
 go_wp2_with fail
 replace HA:=HA.out.pN (g:=w.heap.size) rfl n an cn
 refine HA.out.stepQ (fun _ h=>am3 n _ _ _ (fun _ h=>h.1) (h.ni 0 rfl)) ?_
 clear HA
 intro w1 HA
 obtain⟨zn,-⟩:=HA.out.fs
 cases ht:af1 n with
 |true=>
  replace HT:=hpos HT (by rw [ht])
  go_wp2_with fail
  exact HA.out.fin_u rfl HT.out.symm rfl
 |false=>
  replace HT:=hneg HT (by rw [ht];decide)
  go_wp2_with fail
  refine(P.fail _ _ _ _).mono ?_
  rintro e w9 ⟨rfl,rfl⟩
  have H:=HA.out.bad HT.out.symm
  go_wp2_with fail
  exact⟨rfl,Ans.badh H⟩
theorem S.operator {E:PE} {R:(x:Fn)→PM x.Out} (hR:Env E R) {F:Nat→Prop} {w:World} {p:Ps} (h:St E F w p) (hne:al6 E.s p≠ .out):
  Calls Tryz.prog 157 #[.pointer (some ⟨E.b,0,none⟩)] w (Ans E F X0 w (al6 E.s p) fun r v _=>v= .tuple #[.agg #[.int .i64 r.1.kind,.string r.1.text,.int .i64 r.1.from',.int .i64 r.1.till,.bool r.1.line],.int .i64 r.2]):=by
 obtain⟨T,hT⟩: ∃T,al6 E.s p=T:=⟨_,rfl⟩
 rw [hT] at hne⊢
 unfold al6 at hT
 have HT:=hJ hT
 have HN:=hJ hne
 have HA:=Sa.start0 (X:=X0) h
 clear h hne hT
 go_enter Tryz.func157,Tryz.ntmps157
 go_wp2_with fail
 replace HA:=HA.out.pZT (g:=w.heap.size) rfl
 refine HA.out.stepV HT HN (fun _ h e=>P.peek hR.ok 1 h.s e) ?_ ?_
 ·intro _ _ _ H;go_wp2_with fail;exact⟨rfl,Ans.badh H⟩
 clear HT HA
 intro t q1 w1 HT HA
 obtain⟨zr,-⟩:=HA.out.fs
 have yr:=HA.out.fw 0 rfl
 replace HT:=hget HT
 have cEflags:=HA.out.c_flags
 have lE:=HA.out.lt
 by_cases hk5:t.kind=5
 ·have hk5w:(t.kind !=5)=false:=by rw [hk5];rfl
  have hk5':=hJ hk5
  clear hk5
  replace HT:=hneg HT (by simp [hk5'.out])
  go_wp2_with fail
  go_region_with (go_at_call 219;refine(aD8 t.text _).mono ?_;rintro e w9 ⟨rfl,rfl⟩)
  all_goals
   go_wp2_with fail
   simp only [Act.put,List.getElem_toArray,List.getElem_cons_succ,List.getElem_cons_zero,List.setIfInBounds_toArray,List.set_cons_succ,List.set_cons_zero]
   exact HA.out.fin_ti (t:=t) (i1:=(ad3 t.text)) 0 rfl rfl rfl rfl rfl HT.out.symm (Only.drew (Only.alloc (Only.refl _ _) _))
 ·have hk5w:(t.kind !=5)=true:=by rw [bne_iff_ne];exact hk5
  have hk5':=hJ hk5
  clear hk5
  go_wp2_with fail
  replace HA:=HA.out.pT (g:=w1.heap.size) rfl t
  refine HA.out.stepQ (fun _ h=>P.name t ⟨#[105,110,115,116,97,110,99,101,111,102]⟩ _) ?_
  clear zr yr cEflags lE HA
  intro w2 HA
  obtain⟨zt,zr,-⟩:=HA.out.fs
  have yr:=HA.out.fw 1 rfl
  cases hd:ae7 t ⟨#[105,110,115,116,97,110,99,101,111,102]⟩ with
  |true=>
   replace HT:=hneg HT (by rw [hd];simp)
   go_wp2_with fail
   go_region_with (go_at_call 219;refine(aD8 t.text _).mono ?_;rintro e w9 ⟨rfl,rfl⟩)
   all_goals
    go_wp2_with fail
    simp only [Act.put,List.getElem_toArray,List.getElem_cons_succ,List.getElem_cons_zero,List.setIfInBounds_toArray,List.set_cons_succ,List.set_cons_zero]
    exact HA.out.fin_ti (t:=t) (i1:=(ad3 t.text)) 1 rfl rfl rfl rfl rfl HT.out.symm (Only.drew (Only.refl _ _))
  |false=>
   go_wp2_with fail
   refine HA.out.stepQ (fun _ h=>P.name t ⟨#[105,110]⟩ _) ?_
   clear zt zr yr HA
   intro w3 HA
   obtain⟨zt,zr,-⟩:=HA.out.fs
   have yr:=HA.out.fw 1 rfl
   cases hd2:ae7 t ⟨#[105,110]⟩ with
   |true=>
    have cEflags:=HA.out.c_flags
    have lE:=HA.out.lt
    cases hf:(bits .and .i64 q1.flags 1==0) with
    |true=>
     replace HT:=hpos HT (by rw [hd,hd2];unfold hasF;rw [hf];simp [hk5'.out])
     go_wp2_with fail
     exact HA.out.fin_ti (t:=t) (i1:=0) 1 rfl rfl rfl rfl rfl HT.out.symm (Only.refl _ _)
    |false=>
     replace HT:=hneg HT (by rw [hd,hd2];unfold hasF;rw [hf];simp)
     go_wp2_with fail
     go_region_with (go_at_call 219;refine(aD8 t.text _).mono ?_;rintro e w9 ⟨rfl,rfl⟩)
     all_goals
      go_wp2_with fail
      simp only [Act.put,List.getElem_toArray,List.getElem_cons_succ,List.getElem_cons_zero,List.setIfInBounds_toArray,List.set_cons_succ,List.set_cons_zero]
      exact HA.out.fin_ti (t:=t) (i1:=(ad3 t.text)) 1 rfl rfl rfl rfl rfl HT.out.symm (Only.drew (Only.refl _ _))
   |false=>
    replace HT:=hpos HT (by rw [hd,hd2];simp [hk5'.out])
    go_wp2_with fail
    exact HA.out.fin_ti (t:=t) (i1:=0) 1 rfl rfl rfl rfl rfl HT.out.symm (Only.refl _ _)
end
section
open Go.RowKit
attribute [local go_sem] ab3 ab4 ab5 ab6 ab7 ab8
attribute [local go_sem ↓] Go.wp_at_zero Go.wp_at_succ
theorem S.args {E:PE} {R:(x:Fn)→PM x.Out} (hR:Env E R) {F:Nat→Prop} {w:World} {p:Ps} (h:St E F w p) (hne:bi1 E.s R p≠ .out):
  Calls Tryz.prog 243 #[.pointer (some ⟨E.b,0,none⟩)] w (Ans E F X0 w (bi1 E.s R p) fun n v w'=>IsP E F w' n v):=by
 obtain⟨T,hT⟩: ∃T,bi1 E.s R p=T:=⟨_,rfl⟩
 rw [hT] at hne⊢
 unfold bi1 at hT
 have HT:=hJ hT
 have HN:=hJ hne
 have HA:=Sa.start0 (X:=X0) h
 clear h hne hT
 go_enter Tryz.func243,Tryz.ntmps243
 go_wp2_with fail
 replace HA:=HA.out.pZ (g:=w.heap.size) rfl
 refine HA.out.stepV HT HN (fun _ h e=>P.want hR.ok ⟨#[40]⟩ h.s e) ?_ ?_
 ·intro _ _ _ H;go_wp2_with fail;exact⟨rfl,Ans.badh H⟩
 clear HT HA
 intro t q1 w1 HT HA
 obtain⟨zr,-⟩:=HA.out.fs
 have yr:=HA.out.fw 0 rfl
 go_wp2_with fail
 replace HT:=ac9 HT
 refine HA.out.stepN HT HN (fun _ h e=>hR.h (.arguments t.from') _ _ _ h.s e) ?_ ?_
 ·intro _ _ _ H;go_wp2_with fail;exact⟨rfl,Ans.badh H⟩
 clear zr yr HT HA
 intro n an cn q2 w2 HT HA
 obtain⟨zr,-⟩:=HA.out.fs
 have yr:=HA.out.fw 0 rfl
 go_wp2_with fail
 exact HA.out.fin_nd 0 0 rfl rfl rfl rfl rfl HT.out.symm
theorem S.index {E:PE} {R:(x:Fn)→PM x.Out} (hR:Env E R) {F:Nat→Prop} {w:World} {p:Ps} (h:St E F w p) (hne:aO2 E.s R p≠ .out):
  Calls Tryz.prog 279 #[.pointer (some ⟨E.b,0,none⟩)] w (Ans E F X0 w (aO2 E.s R p) fun n v w'=>IsP E F w' n v):=by
 obtain⟨T,hT⟩: ∃T,aO2 E.s R p=T:=⟨_,rfl⟩
 rw [hT] at hne⊢
 unfold aO2 at hT
 have HT:=hJ hT
 have HN:=hJ hne
 have HA:=Sa.start0 (X:=X0) h
 clear h hne hT
 go_enter Tryz.func279,Tryz.ntmps279
 go_wp2_with fail
 replace HA:=HA.out.pZ (g:=w.heap.size) rfl
 refine HA.out.stepN HT HN (fun _ h e=>hR.h .inner _ _ _ h.s e) ?_ ?_
 ·intro _ _ _ H;go_wp2_with fail;exact⟨rfl,Ans.badh H⟩
 clear HT HA
 intro n an cn q1 w1 HT HA
 obtain⟨zr,-⟩:=HA.out.fs
 have yr:=HA.out.fw 0 rfl
 go_wp2_with fail
 replace HA:=HA.out.pN (g:=w1.heap.size) rfl n an cn
 refine HA.out.stepV HT HN (fun _ h e=>P.want hR.ok ⟨#[93]⟩ h.s e) ?_ ?_
 ·intro _ _ _ H;go_wp2_with fail;exact⟨rfl,Ans.badh H⟩
 clear zr yr HT HA
 intro _ q2 w2 HT HA
 obtain⟨zn,zr,-⟩:=HA.out.fs
 have yr:=HA.out.fw 1 rfl
 go_wp2_with fail
 exact HA.out.fin_nd 1 0 rfl rfl rfl rfl rfl HT.out.symm
theorem S.spread {E:PE} {R:(x:Fn)→PM x.Out} (hR:Env E R) {F:Nat→Prop} {w:World} {p:Ps} (h:St E F w p) (hne:aG0 E.s R p≠ .out):
  Calls Tryz.prog 302 #[.pointer (some ⟨E.b,0,none⟩)] w (Ans E F X0 w (aG0 E.s R p) fun n v w'=>IsP E F w' n v):=by
 obtain⟨T,hT⟩: ∃T,aG0 E.s R p=T:=⟨_,rfl⟩
 rw [hT] at hne⊢
 unfold aG0 at hT
 have HT:=hJ hT
 have HN:=hJ hne
 have HA:=Sa.start0 (X:=X0) h
 clear h hne hT
 go_enter Tryz.func302,Tryz.ntmps302
 go_wp2_with fail
 replace HA:=HA.out.pZ (g:=w.heap.size) rfl
 refine HA.out.stepV HT HN (fun _ h e=>P.peek hR.ok 2 h.s e) ?_ ?_
 ·intro _ _ _ H;go_wp2_with fail;exact⟨rfl,Ans.badh H⟩
 clear HT HA
 intro t q1 w1 HT HA
 obtain⟨zr,-⟩:=HA.out.fs
 have yr:=HA.out.fw 0 rfl
 go_wp2_with fail
 replace HA:=HA.out.pT (g:=w1.heap.size) rfl t
 refine HA.out.stepQ (fun _ h=>P.punct t ⟨#[46,46,46]⟩ _) ?_
 clear zr yr HA
 intro w2 HA
 obtain⟨zt,zr,-⟩:=HA.out.fs
 have yr:=HA.out.fw 1 rfl
 cases hc:aa2 t ⟨#[46,46,46]⟩ with
 |true=>
  replace HT:=hpos HT (by rw [hc])
  go_wp2_with fail
  refine HA.out.stepV HT HN (fun _ h e=>P.take hR.ok h.s e) ?_ ?_
  ·intro _ _ _ H;go_wp2_with fail;exact⟨rfl,Ans.badh H⟩
  clear zt zr yr HT HA
  intro _ q3 w3 HT HA
  obtain⟨zt,zr,-⟩:=HA.out.fs
  have yr:=HA.out.fw 1 rfl
  go_wp2_with fail
  refine HA.out.stepN HT HN (fun _ h e=>hR.h .assign _ _ _ h.s e) ?_ ?_
  ·intro _ _ _ H;go_wp2_with fail;exact⟨rfl,Ans.badh H⟩
  clear zt zr yr HT HA
  intro n an cn q4 w4 HT HA
  obtain⟨zt,zr,-⟩:=HA.out.fs
  have yr:=HA.out.fw 1 rfl
  go_wp2_with fail
  replace HT:=ac9 HT
  replace HA:=HA.out.pN (g:=w4.heap.size) rfl n an cn
  refine HA.out.node 18 ⟨#[]⟩ t.from' [(n,an,cn)] (by simp) rfl (by simp) rfl rfl HT ?_
  clear zt zr yr HT HA
  intro m am cm w5 _ HT HA
  obtain⟨zn,zt,zr,-⟩:=HA.out.fs
  have yr:=HA.out.fw 2 rfl
  go_wp2_with fail
  exact HA.out.fin_nd 2 0 rfl rfl rfl rfl rfl HT.out.symm
 |false=>
  replace HT:=hneg HT (by rw [hc];decide)
  go_wp2_with fail
  replace HT:=ac9 HT
  refine HA.out.stepN HT HN (fun _ h e=>hR.h .assign _ _ _ h.s e) ?_ ?_
  ·intro _ _ _ H;go_wp2_with fail;exact⟨rfl,Ans.badh H⟩
  clear zt zr yr HT HA
  intro n an cn q3 w3 HT HA
  obtain⟨zt,zr,-⟩:=HA.out.fs
  have yr:=HA.out.fw 1 rfl
  go_wp2_with fail
  exact HA.out.fin_nd 1 0 rfl rfl rfl rfl rfl HT.out.symm
end
section
open Go.RowKit
attribute [local go_sem] ab3 ab4 ab5 ab6 ab7 ab8
attribute [local go_sem ↓] Go.wp_at_zero Go.wp_at_succ
theorem S.expr1 {E:PE} {R:(x:Fn)→PM x.Out} (hR:Env E R) {F:Nat→Prop} {w:World} {p:Ps} (h:St E F w p) (hne:aN8 E.s R p≠ .out):
  Calls Tryz.prog 16 #[.pointer (some ⟨E.b,0,none⟩)] w (Ans E F X0 w (aN8 E.s R p) fun n v w'=>IsP E F w' n v):=by
 obtain⟨T,hT⟩: ∃T,aN8 E.s R p=T:=⟨_,rfl⟩
 rw [hT] at hne⊢
 unfold aN8 at hT
 have HT:=hJ hT
 have HN:=hJ hne
 have HA:=Sa.start0 (X:=X0) h
 clear h hne hT
 go_enter Tryz.func16,Tryz.ntmps16
 go_wp2_with fail
 replace HA:=HA.out.pZ (g:=w.heap.size) rfl
 refine HA.out.stepN HT HN (fun _ h e=>hR.h .expression _ _ _ h.s e) ?_ ?_
 ·intro _ _ _ H;go_wp2_with fail;exact⟨rfl,Ans.badh H⟩
 clear HT HA
 intro n an cn q1 w1 HT HA
 obtain⟨zr,-⟩:=HA.out.fs
 have yr:=HA.out.fw 0 rfl
 go_wp2_with fail
 replace HA:=HA.out.pN (g:=w1.heap.size) rfl n an cn
 refine HA.out.stepV HT HN (fun _ h e=>P.peek hR.ok 1 h.s e) ?_ ?_
 ·intro _ _ _ H;go_wp2_with fail;exact⟨rfl,Ans.badh H⟩
 clear zr yr HT HA
 intro t q2 w2 HT HA
 obtain⟨zn,zr,-⟩:=HA.out.fs
 have yr:=HA.out.fw 1 rfl
 by_cases hk0:t.kind=0
 ·have hk0w:=nf hk0
  replace HT:=hpos HT (by exact hk0)
  clear hk0
  go_wp2_with fail
  exact HA.out.fin_nd 1 0 rfl rfl rfl rfl rfl HT.out.symm
 ·have hk0w:=nt hk0
  replace HT:=hneg HT (by exact hk0)
  clear hk0
  go_wp2_with fail
  have H:=HA.out.bad HT.out.symm
  refine HA.out.odd ?_
  go_wp2_with fail
  exact⟨rfl,Ans.badh H⟩
end
end Go.Proofs.YtnobjeelihkjmaaGreatDoor
