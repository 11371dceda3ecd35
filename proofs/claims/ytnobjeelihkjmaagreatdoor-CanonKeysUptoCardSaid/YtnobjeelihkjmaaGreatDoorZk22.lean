/- Steps (Qto). Conditions: as stated. -/
import Derived.Test.YtnobjeelihkjmaaGreatDoorZk15
import Derived.Test.YtnobjeelihkjmaaGreatDoorZk14
set_option maxHeartbeats 8000000
set_option maxRecDepth 100000
namespace Go.Proofs.YtnobjeelihkjmaaGreatDoor
section
open Go.RowKit
attribute [local go_sem] ab3 ab4 ab5 ab6 ab7 ab8
attribute [local go_sem ↓] Go.wp_at_zero Go.wp_at_succ
theorem S.basO {E:PE} {R:(x:Fn)→PM x.Out} (hR:Env E R) {F:Nat→Prop} {w:World} {p:Ps} (t:Tk) (calls:Bool) (h:St E F w p) (hne:bi4 R t calls p≠ .out):
  Calls Tryz.prog 242 #[.pointer (some ⟨E.b,0,none⟩),.agg #[.int .i64 t.kind,.string t.text,.int .i64 t.from',.int .i64 t.till,.bool t.line],.bool calls] w (Ans E F X0 w (bi4 R t calls p) fun n v w'=>IsP E F w' n v):=by
 obtain⟨T,hT⟩: ∃T,bi4 R t calls p=T:=⟨_,rfl⟩
 rw [hT] at hne⊢
 unfold bi4 at hT
 have HT:=hJ hT
 have HN:=hJ hne
 have HA:=Sa.start0 (X:=X0) h
 clear h hne hT
 go_enter Tryz.func242,Tryz.ntmps242
 go_wp2_with fail
 replace HA:=HA.out.pT (g:=w.heap.size) rfl t
 replace HA:=HA.out.pZ (g:=(w.heap.size+1)) (by simp)
 refine HA.out.stepQ (fun _ h=>P.name t ⟨#[110,101,119]⟩ _) ?_
 clear HA
 intro w1 HA
 obtain⟨zr,zt,-⟩:=HA.out.fs
 have yr:=HA.out.fw 0 rfl
 cases d0:ae7 t ⟨#[110,101,119]⟩ with
 |true=>
  replace HT:=hpos HT (by exact d0)
  exact absurd HT.out.symm HN.out
 |false=>
  replace HT:=hneg HT (by rw [d0];decide)
  go_wp2_with fail
  refine HA.out.stepQ (fun _ h=>P.name t ⟨#[115,117,112,101,114]⟩ _) ?_
  clear zr zt yr HA
  intro w2 HA
  obtain⟨zr,zt,-⟩:=HA.out.fs
  have yr:=HA.out.fw 0 rfl
  cases d1:ae7 t ⟨#[115,117,112,101,114]⟩ with
  |true=>
   replace HT:=hpos HT (by exact d1)
   exact absurd HT.out.symm HN.out
  |false=>
   replace HT:=hneg HT (by rw [d1];decide)
   go_wp2_with fail
   refine HA.out.stepQ (fun _ h=>P.name t ⟨#[105,109,112,111,114,116]⟩ _) ?_
   clear zr zt yr HA
   intro w3 HA
   obtain⟨zr,zt,-⟩:=HA.out.fs
   have yr:=HA.out.fw 0 rfl
   cases d2:ae7 t ⟨#[105,109,112,111,114,116]⟩ with
   |true=>
    replace HT:=hpos HT (by exact d2)
    exact absurd HT.out.symm HN.out
   |false=>
    replace HT:=hneg HT (by rw [d2];decide)
    replace HT:=ac9 HT
    go_wp2_with fail
    refine HA.out.stepN HT HN (fun _ h e=>hR.h (.primary t) _ _ _ h.s e) ?_ ?_
    ·intro _ _ _ H;go_wp2_with fail;exact⟨rfl,Ans.badh H⟩
    clear zr zt yr HT HA
    intro z az cz q4 w4 HT HA
    obtain⟨zr,zt,-⟩:=HA.out.fs
    have yr:=HA.out.fw 0 rfl
    go_wp2_with fail
    exact HA.out.fin_nd 0 0 rfl rfl rfl rfl rfl HT.out.symm
theorem S.unaO {E:PE} {R:(x:Fn)→PM x.Out} (hR:Env E R) {F:Nat→Prop} {w:World} {p:Ps} (h:St E F w p) (hne:aR1 E.s R p≠ .out):
  Calls Tryz.prog 218 #[.pointer (some ⟨E.b,0,none⟩)] w (Ans E F X0 w (aR1 E.s R p) fun n v w'=>IsP E F w' n v):=by
 obtain⟨T,hT⟩: ∃T,aR1 E.s R p=T:=⟨_,rfl⟩
 rw [hT] at hne⊢
 unfold aR1 at hT
 have HT:=hJ hT
 have HN:=hJ hne
 have HA:=Sa.start0 (X:=X0) h
 clear h hne hT
 go_enter Tryz.func218,Tryz.ntmps218
 go_wp2_with fail
 replace HA:=HA.out.pP (g:=w.heap.size) rfl
 replace HA:=HA.out.pZ (g:=(w.heap.size+1)) (by simp)
 refine HA.out.stepV HT HN (fun _ h e=>P.peek hR.ok 2 h.s e) ?_ ?_
 ·intro _ _ _ H;go_wp2_with fail;exact⟨rfl,Ans.badh H⟩
 clear HT HA
 intro t q1 w1 HT HA
 obtain⟨zr,zpb,-⟩:=HA.out.fs
 have yr:=HA.out.fw 0 rfl
 go_upto_region 3 with fail
 replace HA:=HA.out.pT (g:=w1.heap.size) rfl t
 clear zr zpb yr
 generalize (w1.alloc (.cells #[.int .i64 t.kind,.string t.text,.int .i64 t.from',.int .i64 t.till,.bool t.line] 49))=w2 at*
 obtain⟨zt,zr,zpb,-⟩:=HA.out.fs
 have yr:=HA.out.fw 1 rfl
 go_wp2_with fail
 refine HA.out.stepQ (fun _ h=>P.name t ⟨#[100,101,108,101,116,101]⟩ _) ?_
 clear zt zr zpb yr HA
 intro w3 HA
 obtain⟨zt,zr,zpb,-⟩:=HA.out.fs
 have yr:=HA.out.fw 1 rfl
 cases d0:ae7 t ⟨#[100,101,108,101,116,101]⟩ with
 |true=>
  replace HT:=hpos HT (by rw [d0];simp)
  exact absurd HT.out.symm HN.out
 |false=>
  go_wp2_with fail
  refine HA.out.stepQ (fun _ h=>P.name t ⟨#[118,111,105,100]⟩ _) ?_
  clear zt zr zpb yr HA
  intro w4 HA
  obtain⟨zt,zr,zpb,-⟩:=HA.out.fs
  have yr:=HA.out.fw 1 rfl
  cases d1:ae7 t ⟨#[118,111,105,100]⟩ with
  |true=>
   replace HT:=hpos HT (by rw [d0,d1];simp)
   exact absurd HT.out.symm HN.out
  |false=>
   go_wp2_with fail
   refine HA.out.stepQ (fun _ h=>P.name t ⟨#[116,121,112,101,111,102]⟩ _) ?_
   clear zt zr zpb yr HA
   intro w5 HA
   obtain⟨zt,zr,zpb,-⟩:=HA.out.fs
   have yr:=HA.out.fw 1 rfl
   cases d2:ae7 t ⟨#[116,121,112,101,111,102]⟩ with
   |true=>
    replace HT:=hpos HT (by rw [d0,d1,d2];simp)
    exact absurd HT.out.symm HN.out
   |false=>
    go_wp2_with fail
    refine HA.out.stepQ (fun _ h=>P.punct t ⟨#[43]⟩ _) ?_
    clear zt zr zpb yr HA
    intro w6 HA
    obtain⟨zt,zr,zpb,-⟩:=HA.out.fs
    have yr:=HA.out.fw 1 rfl
    cases d3:aa2 t ⟨#[43]⟩ with
    |true=>
     replace HT:=hpos HT (by rw [d0,d1,d2,d3];simp)
     exact absurd HT.out.symm HN.out
    |false=>
     go_wp2_with fail
     refine HA.out.stepQ (fun _ h=>P.punct t ⟨#[45]⟩ _) ?_
     clear zt zr zpb yr HA
     intro w7 HA
     obtain⟨zt,zr,zpb,-⟩:=HA.out.fs
     have yr:=HA.out.fw 1 rfl
     cases d4:aa2 t ⟨#[45]⟩ with
     |true=>
      replace HT:=hpos HT (by rw [d0,d1,d2,d3,d4];simp)
      exact absurd HT.out.symm HN.out
     |false=>
      go_wp2_with fail
      refine HA.out.stepQ (fun _ h=>P.punct t ⟨#[126]⟩ _) ?_
      clear zt zr zpb yr HA
      intro w8 HA
      obtain⟨zt,zr,zpb,-⟩:=HA.out.fs
      have yr:=HA.out.fw 1 rfl
      cases d5:aa2 t ⟨#[126]⟩ with
      |true=>
       replace HT:=hpos HT (by rw [d0,d1,d2,d3,d4,d5];simp)
       exact absurd HT.out.symm HN.out
      |false=>
       go_wp2_with fail
       refine HA.out.stepQ (fun _ h=>P.punct t ⟨#[33]⟩ _) ?_
       clear zt zr zpb yr HA
       intro w9 HA
       obtain⟨zt,zr,zpb,-⟩:=HA.out.fs
       have yr:=HA.out.fw 1 rfl
       cases d6:aa2 t ⟨#[33]⟩ with
       |true=>
        replace HT:=hpos HT (by rw [d0,d1,d2,d3,d4,d5,d6];simp)
        exact absurd HT.out.symm HN.out
       |false=>
        replace HT:=hneg HT (by rw [d0,d1,d2,d3,d4,d5,d6];decide)
        go_wp2_with fail
        replace HT:=hget HT
        refine HA.out.stepQ (fun _ h=>P.name t ⟨#[97,119,97,105,116]⟩ _) ?_
        clear zt zr zpb yr HA
        intro w10 HA
        obtain⟨zt,zr,zpb,-⟩:=HA.out.fs
        have yr:=HA.out.fw 1 rfl
        have cEflags:=HA.out.c_flags
        have lE:=HA.out.lt
        cases da:ae7 t ⟨#[97,119,97,105,116]⟩ with
        |true=>
         cases hf:(bits .and .i64 q1.flags 4==0) with
         |true=>
          have hfw:(bits .and .i64 q1.flags 4 !=0)=false:=by rw [bne,hf];rfl
          replace HT:=hneg HT (by rw [da];unfold hasF;rw [hf];decide)
          go_wp2_with fail
          refine HA.out.stepQ (fun _ h=>P.punct t ⟨#[43,43]⟩ _) ?_
          clear zt zr zpb yr cEflags lE HA
          intro w11 HA
          obtain⟨zt,zr,zpb,-⟩:=HA.out.fs
          have yr:=HA.out.fw 1 rfl
          cases dp:aa2 t ⟨#[43,43]⟩ with
          |true=>
           replace HT:=hpos HT (by rw [dp];rfl)
           exact absurd HT.out.symm HN.out
          |false=>
           go_wp2_with fail
           refine HA.out.stepQ (fun _ h=>P.punct t ⟨#[45,45]⟩ _) ?_
           clear zt zr zpb yr HA
           intro w12 HA
           obtain⟨zt,zr,zpb,-⟩:=HA.out.fs
           have yr:=HA.out.fw 1 rfl
           cases dm:aa2 t ⟨#[45,45]⟩ with
           |true=>
            replace HT:=hpos HT (by rw [dp,dm];rfl)
            exact absurd HT.out.symm HN.out
           |false=>
            replace HT:=hneg HT (by rw [dp,dm];decide)
            go_wp2_with fail
            refine HA.out.stepN HT HN (fun _ h e=>hR.h .leftHand _ _ _ h.s e) ?_ ?_
            ·intro _ _ _ H;go_wp2_with fail;exact⟨rfl,Ans.badh H⟩
            clear zt zr zpb yr HT HA
            intro n an cn q13 w13 HT HA
            obtain⟨zt,zr,zpb,-⟩:=HA.out.fs
            have yr:=HA.out.fw 1 rfl
            by_cases hk22:n.kind=22
            ·have hk22w:=kt hk22
             replace HT:=hpos HT (by exact hk22)
             have hk22':=hJ hk22
             clear hk22
             go_wp2_with fail
             exact HA.out.fin_ndA 1 0 rfl rfl rfl rfl rfl HT.out.symm
            ·have hk22w:=kf hk22
             replace HT:=hneg HT (by exact hk22)
             have hk22':=hJ hk22
             clear hk22
             go_wp2_with fail
             replace HA:=HA.out.pN (g:=w13.heap.size) rfl n an cn
             refine HA.out.stepV HT HN (fun _ h e=>P.peek hR.ok 1 h.s e) ?_ ?_
             ·intro _ _ _ H;go_wp2_with fail;exact⟨rfl,Ans.badh H⟩
             clear zt zr zpb yr HT HA
             intro u q14 w14 HT HA
             obtain⟨zn,zt,zr,zpb,-⟩:=HA.out.fs
             have yr:=HA.out.fw 2 rfl
             go_wp2_with fail
             replace HA:=HA.out.pT (g:=w14.heap.size) rfl u
             refine HA.out.stepQ (fun _ h=>P.punct u ⟨#[43,43]⟩ _) ?_
             clear zn zt zr zpb yr HA
             intro w15 HA
             obtain⟨zu,zn,zt,zr,zpb,-⟩:=HA.out.fs
             have yr:=HA.out.fw 3 rfl
             cases du:aa2 u ⟨#[43,43]⟩ with
             |true=>
              replace HT:=hpos HT (by rw [du];rfl)
              exact absurd HT.out.symm HN.out
             |false=>
              go_wp2_with fail
              refine HA.out.stepQ (fun _ h=>P.punct u ⟨#[45,45]⟩ _) ?_
              clear zu zn zt zr zpb yr HA
              intro w16 HA
              obtain⟨zu,zn,zt,zr,zpb,-⟩:=HA.out.fs
              have yr:=HA.out.fw 3 rfl
              cases dv:aa2 u ⟨#[45,45]⟩ with
              |true=>
               replace HT:=hpos HT (by rw [du,dv];rfl)
               exact absurd HT.out.symm HN.out
              |false=>
               replace HT:=hneg HT (by rw [du,dv];decide)
               go_wp2_with fail
               exact HA.out.fin_nd 3 0 rfl rfl rfl rfl rfl HT.out.symm
         |false=>
          replace HT:=hpos HT (by rw [da];unfold hasF;rw [hf];decide)
          exact absurd HT.out.symm HN.out
        |false=>
         replace HT:=hneg HT (by rw [da];simp)
         go_wp2_with fail
         refine HA.out.stepQ (fun _ h=>P.punct t ⟨#[43,43]⟩ _) ?_
         clear zt zr zpb yr cEflags lE HA
         intro w11 HA
         obtain⟨zt,zr,zpb,-⟩:=HA.out.fs
         have yr:=HA.out.fw 1 rfl
         cases dp:aa2 t ⟨#[43,43]⟩ with
         |true=>
          replace HT:=hpos HT (by rw [dp];rfl)
          exact absurd HT.out.symm HN.out
         |false=>
          go_wp2_with fail
          refine HA.out.stepQ (fun _ h=>P.punct t ⟨#[45,45]⟩ _) ?_
          clear zt zr zpb yr HA
          intro w12 HA
          obtain⟨zt,zr,zpb,-⟩:=HA.out.fs
          have yr:=HA.out.fw 1 rfl
          cases dm:aa2 t ⟨#[45,45]⟩ with
          |true=>
           replace HT:=hpos HT (by rw [dp,dm];rfl)
           exact absurd HT.out.symm HN.out
          |false=>
           replace HT:=hneg HT (by rw [dp,dm];decide)
           go_wp2_with fail
           refine HA.out.stepN HT HN (fun _ h e=>hR.h .leftHand _ _ _ h.s e) ?_ ?_
           ·intro _ _ _ H;go_wp2_with fail;exact⟨rfl,Ans.badh H⟩
           clear zt zr zpb yr HT HA
           intro n an cn q13 w13 HT HA
           obtain⟨zt,zr,zpb,-⟩:=HA.out.fs
           have yr:=HA.out.fw 1 rfl
           by_cases hk22:n.kind=22
           ·have hk22w:=kt hk22
            replace HT:=hpos HT (by exact hk22)
            have hk22':=hJ hk22
            clear hk22
            go_wp2_with fail
            exact HA.out.fin_ndA 1 0 rfl rfl rfl rfl rfl HT.out.symm
           ·have hk22w:=kf hk22
            replace HT:=hneg HT (by exact hk22)
            have hk22':=hJ hk22
            clear hk22
            go_wp2_with fail
            replace HA:=HA.out.pN (g:=w13.heap.size) rfl n an cn
            refine HA.out.stepV HT HN (fun _ h e=>P.peek hR.ok 1 h.s e) ?_ ?_
            ·intro _ _ _ H;go_wp2_with fail;exact⟨rfl,Ans.badh H⟩
            clear zt zr zpb yr HT HA
            intro u q14 w14 HT HA
            obtain⟨zn,zt,zr,zpb,-⟩:=HA.out.fs
            have yr:=HA.out.fw 2 rfl
            go_wp2_with fail
            replace HA:=HA.out.pT (g:=w14.heap.size) rfl u
            refine HA.out.stepQ (fun _ h=>P.punct u ⟨#[43,43]⟩ _) ?_
            clear zn zt zr zpb yr HA
            intro w15 HA
            obtain⟨zu,zn,zt,zr,zpb,-⟩:=HA.out.fs
            have yr:=HA.out.fw 3 rfl
            cases du:aa2 u ⟨#[43,43]⟩ with
            |true=>
             replace HT:=hpos HT (by rw [du];rfl)
             exact absurd HT.out.symm HN.out
            |false=>
             go_wp2_with fail
             refine HA.out.stepQ (fun _ h=>P.punct u ⟨#[45,45]⟩ _) ?_
             clear zu zn zt zr zpb yr HA
             intro w16 HA
             obtain⟨zu,zn,zt,zr,zpb,-⟩:=HA.out.fs
             have yr:=HA.out.fw 3 rfl
             cases dv:aa2 u ⟨#[45,45]⟩ with
             |true=>
              replace HT:=hpos HT (by rw [du,dv];rfl)
              exact absurd HT.out.symm HN.out
             |false=>
              replace HT:=hneg HT (by rw [du,dv];decide)
              go_wp2_with fail
              exact HA.out.fin_nd 3 0 rfl rfl rfl rfl rfl HT.out.symm
def LoR (E:PE) (R:(x:Fn)→PM x.Out) (F:Nat→Prop) (w:World) (T:Res Nd) (gr gn:Nat) (k:Nat) (wr:World):Prop:=
 ∃(n:Nd) (a:Option Addr) (c:Nat) (q:Ps),Hid (al3.linkL E.s R k n q=T)∧Hid (Sa E F (X0) w wr q [(gr,true,.z),(gn,true,.nd n a c)] [(n,a,c)] none)
theorem S.lefO {E:PE} {R:(x:Fn)→PM x.Out} (hR:Env E R) {F:Nat→Prop} {w:World} {p:Ps} (f:Nat) (h:St E F w p) (hne:al3 E.s f R p≠ .out):
  Calls Tryz.prog 206 #[.pointer (some ⟨E.b,0,none⟩)] w (Ans E F X0 w (al3 E.s f R p) fun n v w'=>IsP E F w' n v):=by
 obtain⟨T,hT⟩: ∃T,al3 E.s f R p=T:=⟨_,rfl⟩
 rw [hT] at hne⊢
 unfold al3 at hT
 have HT:=hJ hT
 have HN:=hJ hne
 have HA:=Sa.start0 (X:=X0) h
 clear h hne hT
 go_enter Tryz.func206,Tryz.ntmps206
 go_wp2_with fail
 replace HA:=HA.out.pZ (g:=w.heap.size) rfl
 refine HA.out.stepV HT HN (fun _ h e=>P.peek hR.ok 2 h.s e) ?_ ?_
 ·intro _ _ _ H;go_wp2_with fail;exact⟨rfl,Ans.badh H⟩
 clear HT HA
 intro t q1 w1 HT HA
 obtain⟨zr,-⟩:=HA.out.fs
 have yr:=HA.out.fw 0 rfl
 replace HT:=hget HT
 have cEarrow:=HA.out.c_arrow
 have lE:=HA.out.lt
 go_wp2_with fail
 replace HA:=HA.out.pT (g:=w1.heap.size) rfl t
 go_quiet (fail)
 clear zr yr cEarrow lE
 generalize hwq:World.drewN (w1.alloc (.cells #[.int .i64 t.kind,.string t.text,.int .i64 t.from',.int .i64 t.till,.bool t.line] 49)) _=w2
 replace HA:=HA.out.drewE hwq
 clear hwq
 obtain⟨zt,zr,-⟩:=HA.out.fs
 have yr:=HA.out.fw 1 rfl
 go_wp2_with fail
 refine HA.out.stepN HT HN (fun _ h e=>hR.h (.base t true) _ _ _ h.s e) ?_ ?_
 ·intro _ _ _ H;go_wp2_with fail;exact⟨rfl,Ans.badh H⟩
 clear zt zr yr HT HA
 intro n an cn q3 w3 HT HA
 obtain⟨zt,zr,-⟩:=HA.out.fs
 have yr:=HA.out.fw 1 rfl
 by_cases hk22:n.kind=22
 focus
  have hk22w:=kt hk22
  replace HT:=hpos HT (by exact hk22)
  have hk22':=hJ hk22
  clear hk22
  go_wp2_with fail
  exact HA.out.fin_ndA 1 0 rfl rfl rfl rfl rfl HT.out.symm
 focus
  have hk22w:=kf hk22
  replace HT:=hneg HT (by exact hk22)
  have hk22':=hJ hk22
  clear hk22
  cases hm:decide (t.from'=q1.arrow)
  focus
   have hmw:(t.from'==q1.arrow)=false:=by rw [beq_eq_false_iff_ne];exact of_decide_eq_false hm
   replace HT:=hneg HT (by rw [hm];simp)
   go_wp2_with fail
   replace HA:=HA.out.pN (g:=w3.heap.size) rfl n an cn
   clear zt zr yr
   replace HA:=hJ (HA.out.pick [2,0] [0] (by decide))
   dsimp only [pick,nth] at HA
   generalize (w3.alloc (.cells #[.int .i64 n.kind,.string n.text,.slice an n.kids.length cn,.int .i64 n.from',.int .i64 n.till] 27))=wj at HA⊢
   generalize q3=qj at HA HT
   generalize n=nj at HA HT⊢
   generalize an=anj at HA⊢
   generalize cn=cnj at HA⊢
  rotate_left
  focus
   have hmw:(t.from'==q1.arrow)=true:=by rw [beq_iff_eq];exact of_decide_eq_true hm
   by_cases hk1:n.kind=1
   focus
    have hk1w:=kt hk1
    have e1:decide (n.kind=1)=true:=decide_eq_true hk1
    have hk1':=hJ hk1
    clear hk1
    by_cases ha:n.text=⟨#[97,115,121,110,99]⟩
    focus
     have haw:(n.text.toList== [97,115,121,110,99])=true:=xt ha
     replace HT:=hpos HT (by rw [hm,e1,ha];rfl)
     exact absurd HT.out.symm HN.out
    focus
     have haw:(n.text.toList== [97,115,121,110,99])=false:=xf ha
     have ha':=hJ ha
     clear ha
     replace HT:=hneg HT (by rw [decide_eq_false ha'.out];simp)
     go_wp2_with fail
     replace HA:=HA.out.pN (g:=w3.heap.size) rfl n an cn
     clear zt zr yr
     replace HA:=hJ (HA.out.pick [2,0] [0] (by decide))
     dsimp only [pick,nth] at HA
     generalize (w3.alloc (.cells #[.int .i64 n.kind,.string n.text,.slice an n.kids.length cn,.int .i64 n.from',.int .i64 n.till] 27))=wj at HA⊢
     generalize q3=qj at HA HT
     generalize n=nj at HA HT⊢
     generalize an=anj at HA⊢
     generalize cn=cnj at HA⊢
   rotate_left
   focus
    have hk1w:=kf hk1
    have e1:decide (n.kind=1)=false:=decide_eq_false hk1
    have hk1':=hJ hk1
    clear hk1
    replace HT:=hneg HT (by rw [e1];simp)
    go_wp2_with fail
    replace HA:=HA.out.pN (g:=w3.heap.size) rfl n an cn
    clear zt zr yr
    replace HA:=hJ (HA.out.pick [2,0] [0] (by decide))
    dsimp only [pick,nth] at HA
    generalize (w3.alloc (.cells #[.int .i64 n.kind,.string n.text,.slice an n.kids.length cn,.int .i64 n.from',.int .i64 n.till] 27))=wj at HA⊢
    generalize q3=qj at HA HT
    generalize n=nj at HA HT⊢
    generalize an=anj at HA⊢
    generalize cn=cnj at HA⊢
 all_goals
  obtain⟨zr,zn,-⟩:=HA.out.fs
  have yr:=HA.out.fw 0 rfl
  have yn:=HA.out.fw 1 rfl
  go_loopg [] f (fun k wr=>LoR E R F w T (w.heap.size) (w3.heap.size) k wr)
  case atStart=>exact⟨nj,anj,cnj,_,HT,HA.out.pick [0,1] [0] (by decide)⟩
  case round=>
   clear zr zn yr yn HT HA
   obtain⟨n,an,cn,q,HT,HA⟩:=hrel
   cases gk with
   |zero=>exact absurd HT.out.symm HN.out
   |succ k=>
    unfold al3.linkL at HT
    obtain⟨zr,zn,-⟩:=HA.out.fs
    have yr:=HA.out.fw 0 rfl
    have yn:=HA.out.fw 1 rfl
    go_wp2_with fail
    refine HA.out.stepV HT HN (fun _ h e=>P.peek hR.ok 1 h.s e) ?_ ?_
    ·intro _ _ _ H;go_wp2_with fail;exact⟨rfl,Ans.badh H⟩
    clear zr zn yr yn HT HA
    intro next q4 w4 HT HA
    obtain⟨zr,zn,-⟩:=HA.out.fs
    have yr:=HA.out.fw 0 rfl
    have yn:=HA.out.fw 1 rfl
    go_wp2_with fail
    replace HA:=HA.out.pT (g:=w4.heap.size) rfl next
    refine HA.out.stepQ (fun _ h=>P.punct next ⟨#[63,46]⟩ _) ?_
    clear zr zn yr yn HA
    intro w5 HA
    obtain⟨znext,zr,zn,-⟩:=HA.out.fs
    have yr:=HA.out.fw 1 rfl
    have yn:=HA.out.fw 2 rfl
    cases hc:aa2 next ⟨#[63,46]⟩ with
    |true=>
     replace HT:=hpos HT (by exact hc)
     exact absurd HT.out.symm HN.out
    |false=>
     replace HT:=hneg HT (by rw [hc];decide)
     go_wp2_with fail
     refine HA.out.stepL HT HN (fun _ h e=>hR.h (.link n true true) _ _ _ _ (h.ni 0 rfl) h.s e) ?_ ?_
     ·intro _ _ _ H;go_wp2_with fail;exact⟨rfl,Ans.badh H⟩
     clear znext zr zn yr yn HT HA
     intro m b2 am cm q6 w6 HT HA
     dsimp only at HT
     obtain⟨znext,zr,zn,-⟩:=HA.out.fs
     have yr:=HA.out.fw 1 rfl
     have yn:=HA.out.fw 2 rfl
     go_upto_region 21 with fail
     replace HA:=HA.out.setN 2 0 rfl rfl rfl
     clear znext zr zn yr yn
     obtain⟨w7,e8,HA⟩:=HA
     rw [e8]
     clear e8
     dsimp only [ae4] at HA
     obtain⟨znext,zr,zn,-⟩:=HA.out.fs
     have yr:=HA.out.fw 1 rfl
     have yn:=HA.out.fw 2 rfl
     cases b2 with
     |true=>
      replace HT:=hpos HT (by rfl)
      go_wp2_with fail
      go_roundg k
      case measure=>exact Nat.lt_succ_self k
      case rel=>exact⟨m,am,cm,_,HT,HA.out.pick [1,2] [0] (by decide)⟩
     |false=>
      replace HT:=hneg HT (by decide)
      go_wp2_with fail
      exact HA.out.fin_nd 1 0 rfl rfl rfl rfl rfl HT.out.symm
end
end Go.Proofs.YtnobjeelihkjmaaGreatDoor
