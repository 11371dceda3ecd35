/- Steps (Pk Pn2 Pz Re). Conditions: as stated. -/
import Derived.Test.YtibpjkkgfgmkmaaGreatDoorZc11
import Derived.Deep.DrawnRows
set_option maxHeartbeats 1000000
set_option maxRecDepth 100000
namespace Go.Proofs.YtibpjkkgfgmkmaaGreatDoor
section
open Go.RowKit
attribute [local go_sem] ab5 ab6 ab7 ab8 ab9 ac0
attribute [local go_sem ↓] Go.wp_at_zero Go.wp_at_succ
theorem S.args {E:PE} {R:(x:Fn)→PM x.Out} (hR:Env E R) {F:Nat→Prop} {w:World} {p:Ps} (h:St E F w p) (hne:aV0 E.s R p≠ .out):
  Calls Tryz.prog 242 #[.pointer (some ⟨E.b,0,none⟩)] w (Ans E F X0 w (aV0 E.s R p) fun n v w'=>IsP E F w' n v):=by
 obtain⟨T,hT⟩: ∃T,aV0 E.s R p=T:=⟨_,rfl⟩
 rw [hT] at hne⊢
 unfold aV0 at hT
 have HT:=hJ hT
 have HN:=hJ hne
 have HA:=Sa.start0 (X:=X0) h
 clear h hne hT
 go_enter Tryz.func242,Tryz.ntmps242
 go_wp2_with fail
 replace HA:=HA.out.pZ (g:=w.heap.size) rfl
 refine HA.out.stepV HT HN (fun _ h e=>P.want hR.ok ⟨#[40]⟩ h.s e) ?_ ?_
 ·intro _ _ _ H;go_wp2_with fail;exact⟨rfl,Ans.badh H⟩
 clear HT HA
 intro t q1 w1 HT HA
 obtain⟨zr,-⟩:=HA.out.fs
 have yr:=HA.out.fw 0 rfl
 go_wp2_with fail
 replace HT:=ab4 HT
 refine HA.out.stepN HT HN (fun _ h e=>hR.h (.arguments t.from') _ _ _ h.s e) ?_ ?_
 ·intro _ _ _ H;go_wp2_with fail;exact⟨rfl,Ans.badh H⟩
 clear zr yr HT HA
 intro n an cn q2 w2 HT HA
 obtain⟨zr,-⟩:=HA.out.fs
 have yr:=HA.out.fw 0 rfl
 go_wp2_with fail
 exact HA.out.fin_nd 0 0 rfl rfl rfl rfl rfl HT.out.symm
theorem S.index {E:PE} {R:(x:Fn)→PM x.Out} (hR:Env E R) {F:Nat→Prop} {w:World} {p:Ps} (h:St E F w p) (hne:aS0 E.s R p≠ .out):
  Calls Tryz.prog 278 #[.pointer (some ⟨E.b,0,none⟩)] w (Ans E F X0 w (aS0 E.s R p) fun n v w'=>IsP E F w' n v):=by
 obtain⟨T,hT⟩: ∃T,aS0 E.s R p=T:=⟨_,rfl⟩
 rw [hT] at hne⊢
 unfold aS0 at hT
 have HT:=hJ hT
 have HN:=hJ hne
 have HA:=Sa.start0 (X:=X0) h
 clear h hne hT
 go_enter Tryz.func278,Tryz.ntmps278
 go_wp2_with fail
 replace HA:=HA.out.pZ (g:=w.heap.size) rfl
 refine HA.out.stepN HT HN (fun _ h e=>hR.h .inner _ _ _ h.s e) ?_ ?_
 ·intro _ _ _ H;go_wp2_with fail;exact⟨rfl,Ans.badh H⟩
 clear HT HA
 intro n an cn q1 w1 HT HA
 obtain⟨zr,-⟩:=HA.out.fs
 have yr:=HA.out.fw 0 rfl
 go_wp2_with fail
 replace HA:=HA.out.pN (g:=w1.heap.size) rfl n an cn
 refine HA.out.stepV HT HN (fun _ h e=>P.want hR.ok ⟨#[93]⟩ h.s e) ?_ ?_
 ·intro _ _ _ H;go_wp2_with fail;exact⟨rfl,Ans.badh H⟩
 clear zr yr HT HA
 intro _ q2 w2 HT HA
 obtain⟨zn,zr,-⟩:=HA.out.fs
 have yr:=HA.out.fw 1 rfl
 go_wp2_with fail
 exact HA.out.fin_nd 1 0 rfl rfl rfl rfl rfl HT.out.symm
theorem S.spread {E:PE} {R:(x:Fn)→PM x.Out} (hR:Env E R) {F:Nat→Prop} {w:World} {p:Ps} (h:St E F w p) (hne:aw0 E.s R p≠ .out):
  Calls Tryz.prog 301 #[.pointer (some ⟨E.b,0,none⟩)] w (Ans E F X0 w (aw0 E.s R p) fun n v w'=>IsP E F w' n v):=by
 obtain⟨T,hT⟩: ∃T,aw0 E.s R p=T:=⟨_,rfl⟩
 rw [hT] at hne⊢
 unfold aw0 at hT
 have HT:=hJ hT
 have HN:=hJ hne
 have HA:=Sa.start0 (X:=X0) h
 clear h hne hT
 go_enter Tryz.func301,Tryz.ntmps301
 go_wp2_with fail
 replace HA:=HA.out.pZ (g:=w.heap.size) rfl
 refine HA.out.stepV HT HN (fun _ h e=>P.peek hR.ok 2 h.s e) ?_ ?_
 ·intro _ _ _ H;go_wp2_with fail;exact⟨rfl,Ans.badh H⟩
 clear HT HA
 intro t q1 w1 HT HA
 obtain⟨zr,-⟩:=HA.out.fs
 have yr:=HA.out.fw 0 rfl
 go_wp2_with fail
 replace HA:=HA.out.pT (g:=w1.heap.size) rfl t
 refine HA.out.stepQ (fun _ h=>P.punct t ⟨#[46,46,46]⟩ _) ?_
 clear zr yr HA
 intro w2 HA
 obtain⟨zt,zr,-⟩:=HA.out.fs
 have yr:=HA.out.fw 1 rfl
 cases hc:punctT t ⟨#[46,46,46]⟩ with
 |true=>
  replace HT:=hpos HT (by rw [hc])
  go_wp2_with fail
  refine HA.out.stepV HT HN (fun _ h e=>P.take hR.ok h.s e) ?_ ?_
  ·intro _ _ _ H;go_wp2_with fail;exact⟨rfl,Ans.badh H⟩
  clear zt zr yr HT HA
  intro _ q3 w3 HT HA
  obtain⟨zt,zr,-⟩:=HA.out.fs
  have yr:=HA.out.fw 1 rfl
  go_wp2_with fail
  refine HA.out.stepN HT HN (fun _ h e=>hR.h .assign _ _ _ h.s e) ?_ ?_
  ·intro _ _ _ H;go_wp2_with fail;exact⟨rfl,Ans.badh H⟩
  clear zt zr yr HT HA
  intro n an cn q4 w4 HT HA
  obtain⟨zt,zr,-⟩:=HA.out.fs
  have yr:=HA.out.fw 1 rfl
  go_wp2_with fail
  replace HT:=ab4 HT
  replace HA:=HA.out.pN (g:=w4.heap.size) rfl n an cn
  refine HA.out.node 18 ⟨#[]⟩ t.from' [(n,an,cn)] (by simp) rfl (by simp) rfl rfl HT ?_
  clear zt zr yr HT HA
  intro m am cm w5 _ HT HA
  obtain⟨zn,zt,zr,-⟩:=HA.out.fs
  have yr:=HA.out.fw 2 rfl
  go_wp2_with fail
  exact HA.out.fin_nd 2 0 rfl rfl rfl rfl rfl HT.out.symm
 |false=>
  replace HT:=hneg HT (by rw [hc];decide)
  go_wp2_with fail
  replace HT:=ab4 HT
  refine HA.out.stepN HT HN (fun _ h e=>hR.h .assign _ _ _ h.s e) ?_ ?_
  ·intro _ _ _ H;go_wp2_with fail;exact⟨rfl,Ans.badh H⟩
  clear zt zr yr HT HA
  intro n an cn q3 w3 HT HA
  obtain⟨zt,zr,-⟩:=HA.out.fs
  have yr:=HA.out.fw 1 rfl
  go_wp2_with fail
  exact HA.out.fin_nd 1 0 rfl rfl rfl rfl rfl HT.out.symm
end
section
open Go.RowKit
attribute [local go_sem] ab5 ab6 ab7 ab8 ab9 ac0
attribute [local go_sem ↓] Go.wp_at_zero Go.wp_at_succ
theorem C.inner1 {E:PE} {R:(x:Fn)→PM x.Out} (hR:Env E R) {pb nb:Nat} :
  CloS E (fun j=>j=nb) [(pb,false,.p E.b),(nb,true,.nb)] (InB E nb) (R .expression) 246 #[.pointer (some ⟨pb,0,none⟩),.pointer (some ⟨nb,0,none⟩)]:=by
 intro F w p h hB hd hne
 obtain⟨T,hT⟩: ∃T,R .expression p=T:=⟨_,rfl⟩
 rw [hT] at hne⊢
 have HT:=hJ hT
 have HN:=hJ hne
 have HA:=Sa.start (X:=(fun j=>j=nb)) h [] _ (fun _ h=>by cases h) hB (by simp) hd
 clear h hne hT hB hd
 replace HT:=ab4 HT
 obtain⟨zpb,znb,-⟩:=HA.out.fs
 have ynb:=HA.out.fw 1 rfl
 go_enter Tryz.func246,Tryz.ntmps246
 go_wp2_with fail
 refine HA.out.stepN HT HN (fun _ h e=>hR.h .expression _ _ _ h.s e) ?_ ?_
 ·intro _ _ _ H;go_wp2_with fail;exact⟨rfl,Ans.badh H⟩
 clear zpb znb ynb HT HA
 intro n an cn q1 w1 HT HA
 obtain⟨zpb,znb,-⟩:=HA.out.fs
 have ynb:=HA.out.fw 1 rfl
 go_wp2_with fail
 exact HA.out.fin_cl 1 0 rfl rfl rfl rfl HT.out.symm
theorem C.innerAssign1 {E:PE} {R:(x:Fn)→PM x.Out} (hR:Env E R) {pb nb:Nat} :
  CloS E (fun j=>j=nb) [(pb,false,.p E.b),(nb,true,.nb)] (InB E nb) (R .assign) 160 #[.pointer (some ⟨pb,0,none⟩),.pointer (some ⟨nb,0,none⟩)]:=by
 intro F w p h hB hd hne
 obtain⟨T,hT⟩: ∃T,R .assign p=T:=⟨_,rfl⟩
 rw [hT] at hne⊢
 have HT:=hJ hT
 have HN:=hJ hne
 have HA:=Sa.start (X:=(fun j=>j=nb)) h [] _ (fun _ h=>by cases h) hB (by simp) hd
 clear h hne hT hB hd
 replace HT:=ab4 HT
 obtain⟨zpb,znb,-⟩:=HA.out.fs
 have ynb:=HA.out.fw 1 rfl
 go_enter Tryz.func160,Tryz.ntmps160
 go_wp2_with fail
 refine HA.out.stepN HT HN (fun _ h e=>hR.h .assign _ _ _ h.s e) ?_ ?_
 ·intro _ _ _ H;go_wp2_with fail;exact⟨rfl,Ans.badh H⟩
 clear zpb znb ynb HT HA
 intro n an cn q1 w1 HT HA
 obtain⟨zpb,znb,-⟩:=HA.out.fs
 have ynb:=HA.out.fw 1 rfl
 go_wp2_with fail
 exact HA.out.fin_cl 1 0 rfl rfl rfl rfl HT.out.symm
theorem C.unary11 {E:PE} {R:(x:Fn)→PM x.Out} (hR:Env E R) {pb nb:Nat} :
  CloS E (fun j=>j=nb) [(pb,false,.p E.b),(nb,true,.nb)] (InB E nb) (R .unary) 256 #[.pointer (some ⟨pb,0,none⟩),.pointer (some ⟨nb,0,none⟩)]:=by
 intro F w p h hB hd hne
 obtain⟨T,hT⟩: ∃T,R .unary p=T:=⟨_,rfl⟩
 rw [hT] at hne⊢
 have HT:=hJ hT
 have HN:=hJ hne
 have HA:=Sa.start (X:=(fun j=>j=nb)) h [] _ (fun _ h=>by cases h) hB (by simp) hd
 clear h hne hT hB hd
 replace HT:=ab4 HT
 obtain⟨zpb,znb,-⟩:=HA.out.fs
 have ynb:=HA.out.fw 1 rfl
 go_enter Tryz.func256,Tryz.ntmps256
 go_wp2_with fail
 refine HA.out.stepN HT HN (fun _ h e=>hR.h .unary _ _ _ h.s e) ?_ ?_
 ·intro _ _ _ H;go_wp2_with fail;exact⟨rfl,Ans.badh H⟩
 clear zpb znb ynb HT HA
 intro n an cn q1 w1 HT HA
 obtain⟨zpb,znb,-⟩:=HA.out.fs
 have ynb:=HA.out.fw 1 rfl
 go_wp2_with fail
 exact HA.out.fin_cl 1 0 rfl rfl rfl rfl HT.out.symm
theorem S.inner {E:PE} {R:(x:Fn)→PM x.Out} (hR:Env E R) {F:Nat→Prop} {w:World} {p:Ps} (h:St E F w p) (hne:aS1 R p≠ .out):
  Calls Tryz.prog 207 #[.pointer (some ⟨E.b,0,none⟩)] w (Ans E F X0 w (aS1 R p) fun n v w'=>IsP E F w' n v):=by
 obtain⟨T,hT⟩: ∃T,aS1 R p=T:=⟨_,rfl⟩
 rw [hT] at hne⊢
 unfold aS1 at hT
 have HT:=hJ hT
 have HN:=hJ hne
 have HA:=Sa.start0 (X:=X0) h
 clear h hne hT
 go_enter Tryz.func207,Tryz.ntmps207
 go_wp2_with fail
 replace HT:=ab4 HT
 replace HA:=HA.out.pP (g:=w.heap.size) rfl
 replace HA:=HA.out.pZ (g:=(w.heap.size+1)) (by simp)
 refine HA.out.with hR.ok 1 0 HT HN (fun _=>by kernel_rfl) (C.inner1 hR) (.tail _ (.head _)) [1,0] ⟨⟨_,_,rfl,.inl rfl⟩,⟨_,_,rfl,.inr ⟨rfl,_,_,_,_,_,_,_,rfl⟩⟩,trivial⟩ (by decide) 0 rfl ?_ ?_
 ·intro _ _ _ H;go_wp2_with fail;exact⟨rfl,Ans.badh H⟩
 clear HT HA
 intro n an cn q1 w1 HT HA
 dsimp only [ad3] at HA
 obtain⟨zr,zpb,-⟩:=HA.out.fs
 have yr:=HA.out.fw 0 rfl
 go_wp2_with fail
 exact HA.out.fin_nd 0 0 rfl rfl rfl rfl rfl HT.out.symm
theorem S.innerAssign {E:PE} {R:(x:Fn)→PM x.Out} (hR:Env E R) {F:Nat→Prop} {w:World} {p:Ps} (h:St E F w p) (hne:al6 R p≠ .out):
  Calls Tryz.prog 87 #[.pointer (some ⟨E.b,0,none⟩)] w (Ans E F X0 w (al6 R p) fun n v w'=>IsP E F w' n v):=by
 obtain⟨T,hT⟩: ∃T,al6 R p=T:=⟨_,rfl⟩
 rw [hT] at hne⊢
 unfold al6 at hT
 have HT:=hJ hT
 have HN:=hJ hne
 have HA:=Sa.start0 (X:=X0) h
 clear h hne hT
 go_enter Tryz.func87,Tryz.ntmps87
 go_wp2_with fail
 replace HT:=ab4 HT
 replace HA:=HA.out.pP (g:=w.heap.size) rfl
 replace HA:=HA.out.pZ (g:=(w.heap.size+1)) (by simp)
 refine HA.out.with hR.ok 1 0 HT HN (fun _=>by kernel_rfl) (C.innerAssign1 hR) (.tail _ (.head _)) [1,0] ⟨⟨_,_,rfl,.inl rfl⟩,⟨_,_,rfl,.inr ⟨rfl,_,_,_,_,_,_,_,rfl⟩⟩,trivial⟩ (by decide) 0 rfl ?_ ?_
 ·intro _ _ _ H;go_wp2_with fail;exact⟨rfl,Ans.badh H⟩
 clear HT HA
 intro n an cn q1 w1 HT HA
 dsimp only [ad3] at HA
 obtain⟨zr,zpb,-⟩:=HA.out.fs
 have yr:=HA.out.fw 0 rfl
 go_wp2_with fail
 exact HA.out.fin_nd 0 0 rfl rfl rfl rfl rfl HT.out.symm
end
section
open Go.RowKit
attribute [local go_sem] ab5 ab6 ab7 ab8 ab9 ac0
attribute [local go_sem ↓] Go.wp_at_zero Go.wp_at_succ
theorem S.target {E:PE} {F:Nat→Prop} {w:World} {p:Ps} (n:Nd) (v:Value) (hn:IsP E F w n v) (h:St E F w p) (hne:as8 n p≠ .out):
  Calls Tryz.prog 81 #[.pointer (some ⟨E.b,0,none⟩),v] w (Ans E F X0 w (as8 n p) fun _ v _=>v= .tuple #[]):=by
 obtain⟨T,hT⟩: ∃T,as8 n p=T:=⟨_,rfl⟩
 rw [hT] at hne⊢
 unfold as8 at hT
 have HT:=hJ hT
 have HN:=hJ hne
 obtain⟨an,cn,rfl,hn0⟩:=hn.form
 have HA:=Sa.start1 (X:=X0) h hn0
 clear h hne hT hn hn0
 go_enter Tryz.func81,Tryz.ntmps81
 go_wp2_with fail
 replace HA:=HA.out.pN (g:=w.heap.size) rfl n an cn
 refine HA.out.stepQ (fun _ h=>ar8 n _ _ _ (fun _ h=>h.1) (h.ni 0 rfl)) ?_
 clear HA
 intro w1 HA
 obtain⟨zn,-⟩:=HA.out.fs
 cases ht:aj8 n with
 |true=>
  replace HT:=hpos HT (by rw [ht])
  go_wp2_with fail
  exact HA.out.fin_u rfl HT.out.symm rfl
 |false=>
  replace HT:=hneg HT (by rw [ht];decide)
  go_wp2_with fail
  refine(P.fail _ _ _ _).mono ?_
  rintro e w9 ⟨rfl,rfl⟩
  have H:=HA.out.bad HT.out.symm
  go_wp2_with fail
  exact⟨rfl,Ans.badh H⟩
theorem S.operator {E:PE} {R:(x:Fn)→PM x.Out} (hR:Env E R) {F:Nat→Prop} {w:World} {p:Ps} (h:St E F w p) (hne:ah3 E.s p≠ .out):
  Calls Tryz.prog 156 #[.pointer (some ⟨E.b,0,none⟩)] w (Ans E F X0 w (ah3 E.s p) fun r v _=>v= .tuple #[.agg #[.int .i64 r.1.kind,.string r.1.text,.int .i64 r.1.from',.int .i64 r.1.till,.bool r.1.line],.int .i64 r.2]):=by
 obtain⟨T,hT⟩: ∃T,ah3 E.s p=T:=⟨_,rfl⟩
 rw [hT] at hne⊢
 unfold ah3 at hT
 have HT:=hJ hT
 have HN:=hJ hne
 have HA:=Sa.start0 (X:=X0) h
 clear h hne hT
 go_enter Tryz.func156,Tryz.ntmps156
 go_wp2_with fail
 replace HA:=HA.out.pZT (g:=w.heap.size) rfl
 refine HA.out.stepV HT HN (fun _ h e=>P.peek hR.ok 1 h.s e) ?_ ?_
 ·intro _ _ _ H;go_wp2_with fail;exact⟨rfl,Ans.badh H⟩
 clear HT HA
 intro t q1 w1 HT HA
 obtain⟨zr,-⟩:=HA.out.fs
 have yr:=HA.out.fw 0 rfl
 replace HT:=hget HT
 have cEflags:=HA.out.c_flags
 have lE:=HA.out.lt
 by_cases hk5:t.kind=5
 ·have hk5w:(t.kind !=5)=false:=by rw [hk5];rfl
  have hk5':=hJ hk5
  clear hk5
  replace HT:=hneg HT (by simp [hk5'.out])
  go_wp2_with fail
  go_region_with (go_at_call 218;refine(aF6 t.text _).mono ?_;rintro e w9 ⟨rfl,rfl⟩)
  all_goals
   go_wp2_with fail
   simp only [Act.put,List.getElem_toArray,List.getElem_cons_succ,List.getElem_cons_zero,List.setIfInBounds_toArray,List.set_cons_succ,List.set_cons_zero]
   exact HA.out.fin_ti (t:=t) (i1:=(ab2 t.text)) 0 rfl rfl rfl rfl rfl HT.out.symm (Only.drew (Only.alloc (Only.refl _ _) _))
 ·have hk5w:(t.kind !=5)=true:=by rw [bne_iff_ne];exact hk5
  have hk5':=hJ hk5
  clear hk5
  go_wp2_with fail
  replace HA:=HA.out.pT (g:=w1.heap.size) rfl t
  refine HA.out.stepQ (fun _ h=>P.name t ⟨#[105,110,115,116,97,110,99,101,111,102]⟩ _) ?_
  clear zr yr cEflags lE HA
  intro w2 HA
  obtain⟨zt,zr,-⟩:=HA.out.fs
  have yr:=HA.out.fw 1 rfl
  cases hd:nameT t ⟨#[105,110,115,116,97,110,99,101,111,102]⟩ with
  |true=>
   replace HT:=hneg HT (by rw [hd];simp)
   go_wp2_with fail
   go_region_with (go_at_call 218;refine(aF6 t.text _).mono ?_;rintro e w9 ⟨rfl,rfl⟩)
   all_goals
    go_wp2_with fail
    simp only [Act.put,List.getElem_toArray,List.getElem_cons_succ,List.getElem_cons_zero,List.setIfInBounds_toArray,List.set_cons_succ,List.set_cons_zero]
    exact HA.out.fin_ti (t:=t) (i1:=(ab2 t.text)) 1 rfl rfl rfl rfl rfl HT.out.symm (Only.drew (Only.refl _ _))
  |false=>
   go_wp2_with fail
   refine HA.out.stepQ (fun _ h=>P.name t ⟨#[105,110]⟩ _) ?_
   clear zt zr yr HA
   intro w3 HA
   obtain⟨zt,zr,-⟩:=HA.out.fs
   have yr:=HA.out.fw 1 rfl
   cases hd2:nameT t ⟨#[105,110]⟩ with
   |true=>
    have cEflags:=HA.out.c_flags
    have lE:=HA.out.lt
    cases hf:(bits .and .i64 q1.flags 1==0) with
    |true=>
     replace HT:=hpos HT (by rw [hd,hd2];unfold hasF;rw [hf];simp [hk5'.out])
     go_wp2_with fail
     exact HA.out.fin_ti (t:=t) (i1:=0) 1 rfl rfl rfl rfl rfl HT.out.symm (Only.refl _ _)
    |false=>
     replace HT:=hneg HT (by rw [hd,hd2];unfold hasF;rw [hf];simp)
     go_wp2_with fail
     go_region_with (go_at_call 218;refine(aF6 t.text _).mono ?_;rintro e w9 ⟨rfl,rfl⟩)
     all_goals
      go_wp2_with fail
      simp only [Act.put,List.getElem_toArray,List.getElem_cons_succ,List.getElem_cons_zero,List.setIfInBounds_toArray,List.set_cons_succ,List.set_cons_zero]
      exact HA.out.fin_ti (t:=t) (i1:=(ab2 t.text)) 1 rfl rfl rfl rfl rfl HT.out.symm (Only.drew (Only.refl _ _))
   |false=>
    replace HT:=hpos HT (by rw [hd,hd2];simp [hk5'.out])
    go_wp2_with fail
    exact HA.out.fin_ti (t:=t) (i1:=0) 1 rfl rfl rfl rfl rfl HT.out.symm (Only.refl _ _)
theorem C.unary1 {E:PE} {R:(x:Fn)→PM x.Out} (hR:Env E R) {F:Nat→Prop} {w:World} {p:Ps} {pb:Nat} (hB: ∀b ∈ ([(pb,false,.p E.b)]:List Box),F b.1∧BxAt w b.1 b.2.2) (h:St E F w p) (hne:av8 E.s R p≠ .out):
  Calls Tryz.prog 255 #[.pointer (some ⟨pb,0,none⟩)] w (Ans E F X0 w (av8 E.s R p) fun n v w'=>IsP E F w' n v):=by
 have hd:([(pb,false,.p E.b)]:List Box).Pairwise BNe:=by simp
 obtain⟨T,hT⟩: ∃T,av8 E.s R p=T:=⟨_,rfl⟩
 rw [hT] at hne⊢
 unfold av8 at hT
 have HT:=hJ hT
 have HN:=hJ hne
 have HA:=Sa.start (X:=X0) h [] _ (fun _ h=>by cases h) hB (by simp) hd
 clear h hne hT hB hd
 obtain⟨zpb,-⟩:=HA.out.fs
 go_enter Tryz.func255,Tryz.ntmps255
 go_wp2_with fail
 replace HA:=HA.out.pZ (g:=w.heap.size) rfl
 refine HA.out.stepV HT HN (fun _ h e=>P.take hR.ok h.s e) ?_ ?_
 ·intro _ _ _ H;go_wp2_with fail;exact⟨rfl,Ans.badh H⟩
 clear zpb HT HA
 intro _ q1 w1 HT HA
 obtain⟨zr,zpb,-⟩:=HA.out.fs
 have yr:=HA.out.fw 0 rfl
 rcases an6 HT HN with ⟨u,r17,HX,hk⟩|⟨c,i,HX,hk⟩
 ·replace HT:=hk;clear hk
  replace HT:=ab4 HT
  rcases an6 HT HN with ⟨n,r20,HX2,hk⟩|⟨c,i,HX2,hk⟩
  ·replace HT:=hk;clear hk
   go_wp2_with fail
   replace HA:=HA.out.drew
   go_region_with (first|(go_at_call 17;refine HA.out.gotV HX (fun _ h e=>P.peek hR.ok 2 h.s e) ?_;clear zr zpb yr HA;intro w2 HA;obtain⟨zr,zpb,-⟩:=HA.out.fs;have yr:=HA.out.fw 0 rfl)|(go_at_call 45;refine HA.out.gotdeeper hR.ok u.from' HX2 (fun _=>by kernel_rfl) (C.unary11 hR) (.tail _ (.head _)) [1,0] ⟨⟨_,_,rfl,.inl rfl⟩,⟨_,_,rfl,.inr ⟨rfl,_,_,_,_,_,_,_,rfl⟩⟩,trivial⟩ (by decide) 0 rfl ?_;clear zr zpb yr HA;intro an cn w3 HA;dsimp only [ad3] at HA;obtain⟨zr,zpb,-⟩:=HA.out.fs;have yr:=HA.out.fw 0 rfl))
   all_goals
    go_wp2_with fail
    exact HA.out.fin_nd 0 0 rfl rfl rfl rfl rfl HT.out.symm
  ·replace HT:=hk;clear hk
   go_wp2_with fail
   replace HA:=HA.out.drew
   go_region_with (first|(go_at_call 17;refine HA.out.gotV HX (fun _ h e=>P.peek hR.ok 2 h.s e) ?_;clear zr zpb yr HA;intro w2 HA;obtain⟨zr,zpb,-⟩:=HA.out.fs;have yr:=HA.out.fw 0 rfl)|(go_at_call 45;refine HA.out.gotbaddeeper hR.ok u.from' HX2 HT (fun _=>by kernel_rfl) (C.unary11 hR) (.tail _ (.head _)) [1,0] ⟨⟨_,_,rfl,.inl rfl⟩,⟨_,_,rfl,.inr ⟨rfl,_,_,_,_,_,_,_,rfl⟩⟩,trivial⟩ (by decide) 0 rfl (fun _ H=>by (go_wp2_with fail);exact⟨rfl,Ans.badh H⟩) ?_;intro HF))
   all_goals
    exact HF.out.elim
 ·replace HT:=hk;clear hk
  go_wp2_with fail
  replace HA:=HA.out.drew
  go_region_with (first|(go_at_call 17;refine HA.out.gotbad (.agg #[.int .i64 0,.string ⟨#[]⟩,.int .i64 0,.int .i64 0,.bool false]) HX HT (fun _ h e=>P.peek hR.ok 2 h.s e) (fun _ H=>by (go_wp2_with fail);exact⟨rfl,Ans.badh H⟩) ?_;intro HF)|(go_at_call 45;refine at3 (.tuple #[]) HF ?_))
  all_goals
   exact HF.out.elim
end
section
open Go.RowKit
attribute [local go_sem] ab5 ab6 ab7 ab8 ab9 ac0
attribute [local go_sem ↓] Go.wp_at_zero Go.wp_at_succ
theorem S.expr1 {E:PE} {R:(x:Fn)→PM x.Out} (hR:Env E R) {F:Nat→Prop} {w:World} {p:Ps} (h:St E F w p) (hne:aK1 E.s R p≠ .out):
  Calls Tryz.prog 15 #[.pointer (some ⟨E.b,0,none⟩)] w (Ans E F X0 w (aK1 E.s R p) fun n v w'=>IsP E F w' n v):=by
 obtain⟨T,hT⟩: ∃T,aK1 E.s R p=T:=⟨_,rfl⟩
 rw [hT] at hne⊢
 unfold aK1 at hT
 have HT:=hJ hT
 have HN:=hJ hne
 have HA:=Sa.start0 (X:=X0) h
 clear h hne hT
 go_enter Tryz.func15,Tryz.ntmps15
 go_wp2_with fail
 replace HA:=HA.out.pZ (g:=w.heap.size) rfl
 refine HA.out.stepN HT HN (fun _ h e=>hR.h .expression _ _ _ h.s e) ?_ ?_
 ·intro _ _ _ H;go_wp2_with fail;exact⟨rfl,Ans.badh H⟩
 clear HT HA
 intro n an cn q1 w1 HT HA
 obtain⟨zr,-⟩:=HA.out.fs
 have yr:=HA.out.fw 0 rfl
 go_wp2_with fail
 replace HA:=HA.out.pN (g:=w1.heap.size) rfl n an cn
 refine HA.out.stepV HT HN (fun _ h e=>P.peek hR.ok 1 h.s e) ?_ ?_
 ·intro _ _ _ H;go_wp2_with fail;exact⟨rfl,Ans.badh H⟩
 clear zr yr HT HA
 intro t q2 w2 HT HA
 obtain⟨zn,zr,-⟩:=HA.out.fs
 have yr:=HA.out.fw 1 rfl
 by_cases hk0:t.kind=0
 ·have hk0w:=nf hk0
  replace HT:=hpos HT (by exact hk0)
  clear hk0
  go_wp2_with fail
  exact HA.out.fin_nd 1 0 rfl rfl rfl rfl rfl HT.out.symm
 ·have hk0w:=nt hk0
  replace HT:=hneg HT (by exact hk0)
  clear hk0
  go_wp2_with fail
  have H:=HA.out.bad HT.out.symm
  refine HA.out.odd ?_
  go_wp2_with fail
  exact⟨rfl,Ans.badh H⟩
end
end Go.Proofs.YtibpjkkgfgmkmaaGreatDoor
