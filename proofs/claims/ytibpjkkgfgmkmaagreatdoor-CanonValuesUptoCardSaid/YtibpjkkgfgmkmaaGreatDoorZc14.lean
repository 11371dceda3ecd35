/- Steps (Qa). Conditions: as stated. -/
import Derived.Test.YtibpjkkgfgmkmaaGreatDoorZc13
set_option maxHeartbeats 8000000
set_option maxRecDepth 100000
namespace Go.Proofs.YtibpjkkgfgmkmaaGreatDoor
section
open Go.RowKit
attribute [local go_sem] ab5 ab6 ab7 ab8 ab9 ac0
attribute [local go_sem ↓] Go.wp_at_zero Go.wp_at_succ
theorem S.unary {E:PE} {R:(x:Fn)→PM x.Out} (hR:Env E R) {F:Nat→Prop} {w:World} {p:Ps} (h:St E F w p) (hne:aH9 E.s R p≠ .out):
  Calls Tryz.prog 217 #[.pointer (some ⟨E.b,0,none⟩)] w (Ans E F X0 w (aH9 E.s R p) fun n v w'=>IsP E F w' n v):=by
 obtain⟨T,hT⟩: ∃T,aH9 E.s R p=T:=⟨_,rfl⟩
 rw [hT] at hne⊢
 unfold aH9 at hT
 have HT:=hJ hT
 have HN:=hJ hne
 have HA:=Sa.start0 (X:=X0) h
 clear h hne hT
 go_enter Tryz.func217,Tryz.ntmps217
 go_wp2_with fail
 replace HA:=HA.out.pP (g:=w.heap.size) rfl
 replace HA:=HA.out.pZ (g:=(w.heap.size+1)) (by simp)
 refine HA.out.stepV HT HN (fun _ h e=>P.peek hR.ok 2 h.s e) ?_ ?_
 ·intro _ _ _ H;go_wp2_with fail;exact⟨rfl,Ans.badh H⟩
 clear HT HA
 intro t q1 w1 HT HA
 obtain⟨zr,zpb,-⟩:=HA.out.fs
 have yr:=HA.out.fw 0 rfl
 go_upto_region 3 with fail
 replace HA:=HA.out.pT (g:=w1.heap.size) rfl t
 clear zr zpb yr
 generalize (w1.alloc (.cells #[.int .i64 t.kind,.string t.text,.int .i64 t.from',.int .i64 t.till,.bool t.line] 50))=w2 at*
 obtain⟨zt,zr,zpb,-⟩:=HA.out.fs
 have yr:=HA.out.fw 1 rfl
 go_wp2_with fail
 refine HA.out.stepQ (fun _ h=>P.name t ⟨#[100,101,108,101,116,101]⟩ _) ?_
 clear zt zr zpb yr HA
 intro w3 HA
 obtain⟨zt,zr,zpb,-⟩:=HA.out.fs
 have yr:=HA.out.fw 1 rfl
 go_upto_if 13 with fail
 obtain⟨bt,hbt⟩: ∃b,(nameT t ⟨#[100,101,108,101,116,101]⟩||nameT t ⟨#[118,111,105,100]⟩||nameT t ⟨#[116,121,112,101,111,102]⟩||punctT t ⟨#[43]⟩||punctT t ⟨#[45]⟩||punctT t ⟨#[126]⟩||punctT t ⟨#[33]⟩)=b:=⟨_,rfl⟩
 have HO:=hJ hbt
 clear hbt
 have HZ:=hJ (Below.refl w3.heap.size w3)
 go_cut [13] from 14 to 27 (fun v wx=>v= .bool bt∧Below w3.heap.size w3 wx)
 case first=>
  cases d0:nameT t ⟨#[100,101,108,101,116,101]⟩ with
  |true=>
   go_wp2_with fail
   go_meet
   exact⟨by rw [←HO.out,d0];rfl,HZ.out⟩
  |false=>
   go_wp2_with fail
   refine(P.name t ⟨#[118,111,105,100]⟩ _).mono ?_
   rintro e w4 ⟨rfl,hb⟩
   replace HZ:=hJ (HZ.out.trans (hb.mono HZ.out.size))
   replace HA:=hJ (HA.out.keep (Only.of_below hb))
   clear hb
   clear zt zr zpb yr
   obtain⟨zt,zr,zpb,-⟩:=HA.out.fs
   have yr:=HA.out.fw 1 rfl
   cases d1:nameT t ⟨#[118,111,105,100]⟩ with
   |true=>
    go_wp2_with fail
    go_meet
    exact⟨by rw [←HO.out,d0,d1];rfl,HZ.out⟩
   |false=>
    go_wp2_with fail
    refine(P.name t ⟨#[116,121,112,101,111,102]⟩ _).mono ?_
    rintro e w5 ⟨rfl,hb⟩
    replace HZ:=hJ (HZ.out.trans (hb.mono HZ.out.size))
    replace HA:=hJ (HA.out.keep (Only.of_below hb))
    clear hb
    clear zt zr zpb yr
    obtain⟨zt,zr,zpb,-⟩:=HA.out.fs
    have yr:=HA.out.fw 1 rfl
    cases d2:nameT t ⟨#[116,121,112,101,111,102]⟩ with
    |true=>
     go_wp2_with fail
     go_meet
     exact⟨by rw [←HO.out,d0,d1,d2];rfl,HZ.out⟩
    |false=>
     go_wp2_with fail
     refine(P.punct t ⟨#[43]⟩ _).mono ?_
     rintro e w6 ⟨rfl,hb⟩
     replace HZ:=hJ (HZ.out.trans (hb.mono HZ.out.size))
     replace HA:=hJ (HA.out.keep (Only.of_below hb))
     clear hb
     clear zt zr zpb yr
     obtain⟨zt,zr,zpb,-⟩:=HA.out.fs
     have yr:=HA.out.fw 1 rfl
     cases d3:punctT t ⟨#[43]⟩ with
     |true=>
      go_wp2_with fail
      go_meet
      exact⟨by rw [←HO.out,d0,d1,d2,d3];rfl,HZ.out⟩
     |false=>
      go_wp2_with fail
      refine(P.punct t ⟨#[45]⟩ _).mono ?_
      rintro e w7 ⟨rfl,hb⟩
      replace HZ:=hJ (HZ.out.trans (hb.mono HZ.out.size))
      replace HA:=hJ (HA.out.keep (Only.of_below hb))
      clear hb
      clear zt zr zpb yr
      obtain⟨zt,zr,zpb,-⟩:=HA.out.fs
      have yr:=HA.out.fw 1 rfl
      cases d4:punctT t ⟨#[45]⟩ with
      |true=>
       go_wp2_with fail
       go_meet
       exact⟨by rw [←HO.out,d0,d1,d2,d3,d4];rfl,HZ.out⟩
      |false=>
       go_wp2_with fail
       refine(P.punct t ⟨#[126]⟩ _).mono ?_
       rintro e w8 ⟨rfl,hb⟩
       replace HZ:=hJ (HZ.out.trans (hb.mono HZ.out.size))
       replace HA:=hJ (HA.out.keep (Only.of_below hb))
       clear hb
       clear zt zr zpb yr
       obtain⟨zt,zr,zpb,-⟩:=HA.out.fs
       have yr:=HA.out.fw 1 rfl
       cases d5:punctT t ⟨#[126]⟩ with
       |true=>
        go_wp2_with fail
        go_meet
        exact⟨by rw [←HO.out,d0,d1,d2,d3,d4,d5];rfl,HZ.out⟩
       |false=>
        go_wp2_with fail
        refine(P.punct t ⟨#[33]⟩ _).mono ?_
        rintro e w9 ⟨rfl,hb⟩
        replace HZ:=hJ (HZ.out.trans (hb.mono HZ.out.size))
        replace HA:=hJ (HA.out.keep (Only.of_below hb))
        clear hb
        clear zt zr zpb yr
        obtain⟨zt,zr,zpb,-⟩:=HA.out.fs
        have yr:=HA.out.fw 1 rfl
        cases d6:punctT t ⟨#[33]⟩ with
        |true=>
         go_wp2_with fail
         go_meet
         exact⟨by rw [←HO.out,d0,d1,d2,d3,d4,d5,d6];rfl,HZ.out⟩
        |false=>
         go_wp2_with fail
         go_meet
         exact⟨by rw [←HO.out,d0,d1,d2,d3,d4,d5,d6];rfl,HZ.out⟩
 case rest=>
  clear HZ
  obtain⟨rfl,hb⟩:=hcut
  clear zt zr zpb yr
  generalize wc=w4 at*
  replace HA:=hJ (HA.out.keep (Only.of_below hb))
  clear hb
  obtain⟨zt,zr,zpb,-⟩:=HA.out.fs
  have yr:=HA.out.fw 1 rfl
  cases bt with
  |true=>
   replace HT:=hpos HT (by rw [HO.out])
   go_wp2_with fail
   refine HA.out.stepN HT HN (fun _ h e=>C.unary1 hR (fun b hb=>by simp only [List.mem_cons,List.not_mem_nil,or_false] at hb;subst hb;exact⟨(h.bx _ (aa5 (i:=2) rfl)).1,(h.bx _ (aa5 (i:=2) rfl)).2.1⟩) h.s e) ?_ ?_
   ·intro _ _ _ H;go_wp2_with fail;exact⟨rfl,Ans.badh H⟩
   clear zt zr zpb yr HT HA
   intro n an cn q5 w5 HT HA
   obtain⟨zt,zr,zpb,-⟩:=HA.out.fs
   have yr:=HA.out.fw 1 rfl
   go_wp2_with fail
   replace HT:=ab4 HT
   replace HA:=HA.out.pN (g:=w5.heap.size) rfl n an cn
   refine HA.out.node 27 t.text t.from' [(n,an,cn)] (by simp) rfl (by simp) rfl rfl HT ?_
   clear zt zr zpb yr HT HA
   intro m am cm w6 _ HT HA
   obtain⟨zn,zt,zr,zpb,-⟩:=HA.out.fs
   have yr:=HA.out.fw 2 rfl
   go_wp2_with fail
   exact HA.out.fin_nd 2 0 rfl rfl rfl rfl rfl HT.out.symm
  |false=>
   replace HT:=hneg HT (by rw [HO.out];decide)
   replace HT:=hget HT
   go_wp2_with fail
   refine HA.out.stepQ (fun _ h=>P.name t ⟨#[97,119,97,105,116]⟩ _) ?_
   clear zt zr zpb yr HA
   intro w5 HA
   obtain⟨zt,zr,zpb,-⟩:=HA.out.fs
   have yr:=HA.out.fw 1 rfl
   have cEflags:=HA.out.c_flags
   have lE:=HA.out.lt
   cases da:nameT t ⟨#[97,119,97,105,116]⟩ with
   |true=>
    cases hf:(bits .and .i64 q1.flags 4==0) with
    |true=>
     have hfw:(bits .and .i64 q1.flags 4 !=0)=false:=by rw [bne,hf];rfl
     replace HT:=hneg HT (by rw [da];unfold hasF;rw [hf];decide)
     go_wp2_with fail
     refine HA.out.stepQ (fun _ h=>P.punct t ⟨#[43,43]⟩ _) ?_
     clear zt zr zpb yr cEflags lE HA
     intro w6 HA
     obtain⟨zt,zr,zpb,-⟩:=HA.out.fs
     have yr:=HA.out.fw 1 rfl
     cases dp:punctT t ⟨#[43,43]⟩ with
     |true=>
      have hszt:t.text.size≤16:=by
       have hp:=dp
       unfold punctT at hp
       simp only [Bool.and_eq_true,decide_eq_true_eq] at hp
       rw [hp.2];decide
      replace HT:=hpos HT (by rw [dp];rfl)
      go_wp2_with fail
      refine HA.out.stepN HT HN (fun _ h e=>C.unary1 hR (fun b hb=>by simp only [List.mem_cons,List.not_mem_nil,or_false] at hb;subst hb;exact⟨(h.bx _ (aa5 (i:=2) rfl)).1,(h.bx _ (aa5 (i:=2) rfl)).2.1⟩) h.s e) ?_ ?_
      ·intro _ _ _ H;go_wp2_with fail;exact⟨rfl,Ans.badh H⟩
      clear zt zr zpb yr HT HA
      intro n an cn q7 w7 HT HA
      obtain⟨zt,zr,zpb,-⟩:=HA.out.fs
      have yr:=HA.out.fw 1 rfl
      go_wp2_with fail
      replace HA:=HA.out.pN (g:=w7.heap.size) rfl n an cn
      refine HA.out.stepV HT HN (fun _ h e=>S.target n _ (h.ni 0 rfl) h.s e) ?_ ?_
      ·intro _ _ _ H;go_wp2_with fail;exact⟨rfl,Ans.badh H⟩
      clear zt zr zpb yr HT HA
      intro _ q8 w8 HT HA
      obtain⟨zn,zt,zr,zpb,-⟩:=HA.out.fs
      have yr:=HA.out.fw 2 rfl
      replace HT:=ab4 HT
      go_wp2_with fail
      generalize t.text++(⟨#[120]⟩:ByteArray)=xt at*
      refine HA.out.node 28 xt t.from' [(n,an,cn)] (by simp) rfl rfl rfl rfl HT ?_
      clear zn zt zr zpb yr HT HA
      intro m am cm w9 _ HT HA
      obtain⟨zn,zt,zr,zpb,-⟩:=HA.out.fs
      have yr:=HA.out.fw 2 rfl
      go_wp2_with fail
      exact HA.out.fin_nd 2 0 rfl rfl rfl rfl rfl HT.out.symm
     |false=>
      go_wp2_with fail
      refine HA.out.stepQ (fun _ h=>P.punct t ⟨#[45,45]⟩ _) ?_
      clear zt zr zpb yr HA
      intro w7 HA
      obtain⟨zt,zr,zpb,-⟩:=HA.out.fs
      have yr:=HA.out.fw 1 rfl
      cases dm:punctT t ⟨#[45,45]⟩ with
      |true=>
       have hszt:t.text.size≤16:=by
        have hp:=dm
        unfold punctT at hp
        simp only [Bool.and_eq_true,decide_eq_true_eq] at hp
        rw [hp.2];decide
       replace HT:=hpos HT (by rw [dp,dm];rfl)
       go_wp2_with fail
       refine HA.out.stepN HT HN (fun _ h e=>C.unary1 hR (fun b hb=>by simp only [List.mem_cons,List.not_mem_nil,or_false] at hb;subst hb;exact⟨(h.bx _ (aa5 (i:=2) rfl)).1,(h.bx _ (aa5 (i:=2) rfl)).2.1⟩) h.s e) ?_ ?_
       ·intro _ _ _ H;go_wp2_with fail;exact⟨rfl,Ans.badh H⟩
       clear zt zr zpb yr HT HA
       intro n an cn q8 w8 HT HA
       obtain⟨zt,zr,zpb,-⟩:=HA.out.fs
       have yr:=HA.out.fw 1 rfl
       go_wp2_with fail
       replace HA:=HA.out.pN (g:=w8.heap.size) rfl n an cn
       refine HA.out.stepV HT HN (fun _ h e=>S.target n _ (h.ni 0 rfl) h.s e) ?_ ?_
       ·intro _ _ _ H;go_wp2_with fail;exact⟨rfl,Ans.badh H⟩
       clear zt zr zpb yr HT HA
       intro _ q9 w9 HT HA
       obtain⟨zn,zt,zr,zpb,-⟩:=HA.out.fs
       have yr:=HA.out.fw 2 rfl
       replace HT:=ab4 HT
       go_wp2_with fail
       generalize t.text++(⟨#[120]⟩:ByteArray)=xt at*
       refine HA.out.node 28 xt t.from' [(n,an,cn)] (by simp) rfl rfl rfl rfl HT ?_
       clear zn zt zr zpb yr HT HA
       intro m am cm w10 _ HT HA
       obtain⟨zn,zt,zr,zpb,-⟩:=HA.out.fs
       have yr:=HA.out.fw 2 rfl
       go_wp2_with fail
       exact HA.out.fin_nd 2 0 rfl rfl rfl rfl rfl HT.out.symm
      |false=>
       replace HT:=hneg HT (by rw [dp,dm];decide)
       go_wp2_with fail
       refine HA.out.stepN HT HN (fun _ h e=>hR.h .leftHand _ _ _ h.s e) ?_ ?_
       ·intro _ _ _ H;go_wp2_with fail;exact⟨rfl,Ans.badh H⟩
       clear zt zr zpb yr HT HA
       intro n an cn q8 w8 HT HA
       obtain⟨zt,zr,zpb,-⟩:=HA.out.fs
       have yr:=HA.out.fw 1 rfl
       by_cases hk22:n.kind=22
       ·have hk22w:=kt hk22
        replace HT:=hpos HT (by exact hk22)
        have hk22':=hJ hk22
        clear hk22
        go_wp2_with fail
        exact HA.out.fin_ndA 1 0 rfl rfl rfl rfl rfl HT.out.symm
       ·have hk22w:=kf hk22
        replace HT:=hneg HT (by exact hk22)
        have hk22':=hJ hk22
        clear hk22
        go_wp2_with fail
        replace HA:=HA.out.pN (g:=w8.heap.size) rfl n an cn
        refine HA.out.stepV HT HN (fun _ h e=>P.peek hR.ok 1 h.s e) ?_ ?_
        ·intro _ _ _ H;go_wp2_with fail;exact⟨rfl,Ans.badh H⟩
        clear zt zr zpb yr HT HA
        intro u q9 w9 HT HA
        obtain⟨zn,zt,zr,zpb,-⟩:=HA.out.fs
        have yr:=HA.out.fw 2 rfl
        go_wp2_with fail
        replace HA:=HA.out.pT (g:=w9.heap.size) rfl u
        refine HA.out.stepQ (fun _ h=>P.punct u ⟨#[43,43]⟩ _) ?_
        clear zn zt zr zpb yr HA
        intro w10 HA
        obtain⟨zu,zn,zt,zr,zpb,-⟩:=HA.out.fs
        have yr:=HA.out.fw 3 rfl
        cases du:punctT u ⟨#[43,43]⟩ with
        |true=>
         cases hl:u.line with
         |true=>
          have hlw:u.line=true:=hl
          replace HT:=hneg HT (by rw [du,hl];simp)
          go_wp2_with fail
          exact HA.out.fin_nd 3 0 rfl rfl rfl rfl rfl HT.out.symm
         |false=>
          have hszu:u.text.size≤16:=by
           have hp:=du
           unfold punctT at hp
           simp only [Bool.and_eq_true,decide_eq_true_eq] at hp
           rw [hp.2];decide
          replace HT:=hpos HT (by rw [du,hl];rfl)
          go_wp2_with fail
          refine HA.out.stepV HT HN (fun _ h e=>S.target n _ (h.ni 0 rfl) h.s e) ?_ ?_
          ·intro _ _ _ H;go_wp2_with fail;exact⟨rfl,Ans.badh H⟩
          clear zu zn zt zr zpb yr HT HA
          intro _ q11 w11 HT HA
          obtain⟨zu,zn,zt,zr,zpb,-⟩:=HA.out.fs
          have yr:=HA.out.fw 3 rfl
          go_wp2_with fail
          refine HA.out.stepV HT HN (fun _ h e=>P.take hR.ok h.s e) ?_ ?_
          ·intro _ _ _ H;go_wp2_with fail;exact⟨rfl,Ans.badh H⟩
          clear zu zn zt zr zpb yr HT HA
          intro _ q12 w12 HT HA
          obtain⟨zu,zn,zt,zr,zpb,-⟩:=HA.out.fs
          have yr:=HA.out.fw 3 rfl
          replace HT:=ab4 HT
          go_wp2_with fail
          generalize (⟨#[120]⟩:ByteArray)++u.text=xt at*
          refine HA.out.node 28 xt n.from' [(n,an,cn)] (by simp) rfl rfl rfl rfl HT ?_
          clear zu zn zt zr zpb yr HT HA
          intro m am cm w13 _ HT HA
          obtain⟨zu,zn,zt,zr,zpb,-⟩:=HA.out.fs
          have yr:=HA.out.fw 3 rfl
          go_wp2_with fail
          exact HA.out.fin_nd 3 0 rfl rfl rfl rfl rfl HT.out.symm
        |false=>
         go_wp2_with fail
         refine HA.out.stepQ (fun _ h=>P.punct u ⟨#[45,45]⟩ _) ?_
         clear zu zn zt zr zpb yr HA
         intro w11 HA
         obtain⟨zu,zn,zt,zr,zpb,-⟩:=HA.out.fs
         have yr:=HA.out.fw 3 rfl
         cases dv:punctT u ⟨#[45,45]⟩ with
         |true=>
          cases hl:u.line with
          |true=>
           have hlw:u.line=true:=hl
           replace HT:=hneg HT (by rw [du,dv,hl];simp)
           go_wp2_with fail
           exact HA.out.fin_nd 3 0 rfl rfl rfl rfl rfl HT.out.symm
          |false=>
           have hszu:u.text.size≤16:=by
            have hp:=dv
            unfold punctT at hp
            simp only [Bool.and_eq_true,decide_eq_true_eq] at hp
            rw [hp.2];decide
           replace HT:=hpos HT (by rw [du,dv,hl];rfl)
           go_wp2_with fail
           refine HA.out.stepV HT HN (fun _ h e=>S.target n _ (h.ni 0 rfl) h.s e) ?_ ?_
           ·intro _ _ _ H;go_wp2_with fail;exact⟨rfl,Ans.badh H⟩
           clear zu zn zt zr zpb yr HT HA
           intro _ q12 w12 HT HA
           obtain⟨zu,zn,zt,zr,zpb,-⟩:=HA.out.fs
           have yr:=HA.out.fw 3 rfl
           go_wp2_with fail
           refine HA.out.stepV HT HN (fun _ h e=>P.take hR.ok h.s e) ?_ ?_
           ·intro _ _ _ H;go_wp2_with fail;exact⟨rfl,Ans.badh H⟩
           clear zu zn zt zr zpb yr HT HA
           intro _ q13 w13 HT HA
           obtain⟨zu,zn,zt,zr,zpb,-⟩:=HA.out.fs
           have yr:=HA.out.fw 3 rfl
           replace HT:=ab4 HT
           go_wp2_with fail
           generalize (⟨#[120]⟩:ByteArray)++u.text=xt at*
           refine HA.out.node 28 xt n.from' [(n,an,cn)] (by simp) rfl rfl rfl rfl HT ?_
           clear zu zn zt zr zpb yr HT HA
           intro m am cm w14 _ HT HA
           obtain⟨zu,zn,zt,zr,zpb,-⟩:=HA.out.fs
           have yr:=HA.out.fw 3 rfl
           go_wp2_with fail
           exact HA.out.fin_nd 3 0 rfl rfl rfl rfl rfl HT.out.symm
         |false=>
          replace HT:=hneg HT (by rw [du,dv];simp)
          go_wp2_with fail
          exact HA.out.fin_nd 3 0 rfl rfl rfl rfl rfl HT.out.symm
    |false=>
     have hfw:(bits .and .i64 q1.flags 4 !=0)=true:=by rw [bne,hf];rfl
     replace HT:=hpos HT (by rw [da];unfold hasF;rw [hf];decide)
     go_wp2_with fail
     refine HA.out.stepN HT HN (fun _ h e=>C.unary1 hR (fun b hb=>by simp only [List.mem_cons,List.not_mem_nil,or_false] at hb;subst hb;exact⟨(h.bx _ (aa5 (i:=2) rfl)).1,(h.bx _ (aa5 (i:=2) rfl)).2.1⟩) h.s e) ?_ ?_
     ·intro _ _ _ H;go_wp2_with fail;exact⟨rfl,Ans.badh H⟩
     clear zt zr zpb yr cEflags lE HT HA
     intro n an cn q6 w6 HT HA
     obtain⟨zt,zr,zpb,-⟩:=HA.out.fs
     have yr:=HA.out.fw 1 rfl
     go_wp2_with fail
     replace HT:=ab4 HT
     replace HA:=HA.out.pN (g:=w6.heap.size) rfl n an cn
     refine HA.out.node 34 ⟨#[]⟩ t.from' [(n,an,cn)] (by simp) rfl (by simp) rfl rfl HT ?_
     clear zt zr zpb yr HT HA
     intro m am cm w7 _ HT HA
     obtain⟨zn,zt,zr,zpb,-⟩:=HA.out.fs
     have yr:=HA.out.fw 2 rfl
     go_wp2_with fail
     exact HA.out.fin_nd 2 0 rfl rfl rfl rfl rfl HT.out.symm
   |false=>
    replace HT:=hneg HT (by rw [da];simp)
    go_wp2_with fail
    refine HA.out.stepQ (fun _ h=>P.punct t ⟨#[43,43]⟩ _) ?_
    clear zt zr zpb yr cEflags lE HA
    intro w6 HA
    obtain⟨zt,zr,zpb,-⟩:=HA.out.fs
    have yr:=HA.out.fw 1 rfl
    cases dp:punctT t ⟨#[43,43]⟩ with
    |true=>
     have hszt:t.text.size≤16:=by
      have hp:=dp
      unfold punctT at hp
      simp only [Bool.and_eq_true,decide_eq_true_eq] at hp
      rw [hp.2];decide
     replace HT:=hpos HT (by rw [dp];rfl)
     go_wp2_with fail
     refine HA.out.stepN HT HN (fun _ h e=>C.unary1 hR (fun b hb=>by simp only [List.mem_cons,List.not_mem_nil,or_false] at hb;subst hb;exact⟨(h.bx _ (aa5 (i:=2) rfl)).1,(h.bx _ (aa5 (i:=2) rfl)).2.1⟩) h.s e) ?_ ?_
     ·intro _ _ _ H;go_wp2_with fail;exact⟨rfl,Ans.badh H⟩
     clear zt zr zpb yr HT HA
     intro n an cn q7 w7 HT HA
     obtain⟨zt,zr,zpb,-⟩:=HA.out.fs
     have yr:=HA.out.fw 1 rfl
     go_wp2_with fail
     replace HA:=HA.out.pN (g:=w7.heap.size) rfl n an cn
     refine HA.out.stepV HT HN (fun _ h e=>S.target n _ (h.ni 0 rfl) h.s e) ?_ ?_
     ·intro _ _ _ H;go_wp2_with fail;exact⟨rfl,Ans.badh H⟩
     clear zt zr zpb yr HT HA
     intro _ q8 w8 HT HA
     obtain⟨zn,zt,zr,zpb,-⟩:=HA.out.fs
     have yr:=HA.out.fw 2 rfl
     replace HT:=ab4 HT
     go_wp2_with fail
     generalize t.text++(⟨#[120]⟩:ByteArray)=xt at*
     refine HA.out.node 28 xt t.from' [(n,an,cn)] (by simp) rfl rfl rfl rfl HT ?_
     clear zn zt zr zpb yr HT HA
     intro m am cm w9 _ HT HA
     obtain⟨zn,zt,zr,zpb,-⟩:=HA.out.fs
     have yr:=HA.out.fw 2 rfl
     go_wp2_with fail
     exact HA.out.fin_nd 2 0 rfl rfl rfl rfl rfl HT.out.symm
    |false=>
     go_wp2_with fail
     refine HA.out.stepQ (fun _ h=>P.punct t ⟨#[45,45]⟩ _) ?_
     clear zt zr zpb yr HA
     intro w7 HA
     obtain⟨zt,zr,zpb,-⟩:=HA.out.fs
     have yr:=HA.out.fw 1 rfl
     cases dm:punctT t ⟨#[45,45]⟩ with
     |true=>
      have hszt:t.text.size≤16:=by
       have hp:=dm
       unfold punctT at hp
       simp only [Bool.and_eq_true,decide_eq_true_eq] at hp
       rw [hp.2];decide
      replace HT:=hpos HT (by rw [dp,dm];rfl)
      go_wp2_with fail
      refine HA.out.stepN HT HN (fun _ h e=>C.unary1 hR (fun b hb=>by simp only [List.mem_cons,List.not_mem_nil,or_false] at hb;subst hb;exact⟨(h.bx _ (aa5 (i:=2) rfl)).1,(h.bx _ (aa5 (i:=2) rfl)).2.1⟩) h.s e) ?_ ?_
      ·intro _ _ _ H;go_wp2_with fail;exact⟨rfl,Ans.badh H⟩
      clear zt zr zpb yr HT HA
      intro n an cn q8 w8 HT HA
      obtain⟨zt,zr,zpb,-⟩:=HA.out.fs
      have yr:=HA.out.fw 1 rfl
      go_wp2_with fail
      replace HA:=HA.out.pN (g:=w8.heap.size) rfl n an cn
      refine HA.out.stepV HT HN (fun _ h e=>S.target n _ (h.ni 0 rfl) h.s e) ?_ ?_
      ·intro _ _ _ H;go_wp2_with fail;exact⟨rfl,Ans.badh H⟩
      clear zt zr zpb yr HT HA
      intro _ q9 w9 HT HA
      obtain⟨zn,zt,zr,zpb,-⟩:=HA.out.fs
      have yr:=HA.out.fw 2 rfl
      replace HT:=ab4 HT
      go_wp2_with fail
      generalize t.text++(⟨#[120]⟩:ByteArray)=xt at*
      refine HA.out.node 28 xt t.from' [(n,an,cn)] (by simp) rfl rfl rfl rfl HT ?_
      clear zn zt zr zpb yr HT HA
      intro m am cm w10 _ HT HA
      obtain⟨zn,zt,zr,zpb,-⟩:=HA.out.fs
      have yr:=HA.out.fw 2 rfl
      go_wp2_with fail
      exact HA.out.fin_nd 2 0 rfl rfl rfl rfl rfl HT.out.symm
     |false=>
      replace HT:=hneg HT (by rw [dp,dm];decide)
      go_wp2_with fail
      refine HA.out.stepN HT HN (fun _ h e=>hR.h .leftHand _ _ _ h.s e) ?_ ?_
      ·intro _ _ _ H;go_wp2_with fail;exact⟨rfl,Ans.badh H⟩
      clear zt zr zpb yr HT HA
      intro n an cn q8 w8 HT HA
      obtain⟨zt,zr,zpb,-⟩:=HA.out.fs
      have yr:=HA.out.fw 1 rfl
      by_cases hk22:n.kind=22
      ·have hk22w:=kt hk22
       replace HT:=hpos HT (by exact hk22)
       have hk22':=hJ hk22
       clear hk22
       go_wp2_with fail
       exact HA.out.fin_ndA 1 0 rfl rfl rfl rfl rfl HT.out.symm
      ·have hk22w:=kf hk22
       replace HT:=hneg HT (by exact hk22)
       have hk22':=hJ hk22
       clear hk22
       go_wp2_with fail
       replace HA:=HA.out.pN (g:=w8.heap.size) rfl n an cn
       refine HA.out.stepV HT HN (fun _ h e=>P.peek hR.ok 1 h.s e) ?_ ?_
       ·intro _ _ _ H;go_wp2_with fail;exact⟨rfl,Ans.badh H⟩
       clear zt zr zpb yr HT HA
       intro u q9 w9 HT HA
       obtain⟨zn,zt,zr,zpb,-⟩:=HA.out.fs
       have yr:=HA.out.fw 2 rfl
       go_wp2_with fail
       replace HA:=HA.out.pT (g:=w9.heap.size) rfl u
       refine HA.out.stepQ (fun _ h=>P.punct u ⟨#[43,43]⟩ _) ?_
       clear zn zt zr zpb yr HA
       intro w10 HA
       obtain⟨zu,zn,zt,zr,zpb,-⟩:=HA.out.fs
       have yr:=HA.out.fw 3 rfl
       cases du:punctT u ⟨#[43,43]⟩ with
       |true=>
        cases hl:u.line with
        |true=>
         have hlw:u.line=true:=hl
         replace HT:=hneg HT (by rw [du,hl];simp)
         go_wp2_with fail
         exact HA.out.fin_nd 3 0 rfl rfl rfl rfl rfl HT.out.symm
        |false=>
         have hszu:u.text.size≤16:=by
          have hp:=du
          unfold punctT at hp
          simp only [Bool.and_eq_true,decide_eq_true_eq] at hp
          rw [hp.2];decide
         replace HT:=hpos HT (by rw [du,hl];rfl)
         go_wp2_with fail
         refine HA.out.stepV HT HN (fun _ h e=>S.target n _ (h.ni 0 rfl) h.s e) ?_ ?_
         ·intro _ _ _ H;go_wp2_with fail;exact⟨rfl,Ans.badh H⟩
         clear zu zn zt zr zpb yr HT HA
         intro _ q11 w11 HT HA
         obtain⟨zu,zn,zt,zr,zpb,-⟩:=HA.out.fs
         have yr:=HA.out.fw 3 rfl
         go_wp2_with fail
         refine HA.out.stepV HT HN (fun _ h e=>P.take hR.ok h.s e) ?_ ?_
         ·intro _ _ _ H;go_wp2_with fail;exact⟨rfl,Ans.badh H⟩
         clear zu zn zt zr zpb yr HT HA
         intro _ q12 w12 HT HA
         obtain⟨zu,zn,zt,zr,zpb,-⟩:=HA.out.fs
         have yr:=HA.out.fw 3 rfl
         replace HT:=ab4 HT
         go_wp2_with fail
         generalize (⟨#[120]⟩:ByteArray)++u.text=xt at*
         refine HA.out.node 28 xt n.from' [(n,an,cn)] (by simp) rfl rfl rfl rfl HT ?_
         clear zu zn zt zr zpb yr HT HA
         intro m am cm w13 _ HT HA
         obtain⟨zu,zn,zt,zr,zpb,-⟩:=HA.out.fs
         have yr:=HA.out.fw 3 rfl
         go_wp2_with fail
         exact HA.out.fin_nd 3 0 rfl rfl rfl rfl rfl HT.out.symm
       |false=>
        go_wp2_with fail
        refine HA.out.stepQ (fun _ h=>P.punct u ⟨#[45,45]⟩ _) ?_
        clear zu zn zt zr zpb yr HA
        intro w11 HA
        obtain⟨zu,zn,zt,zr,zpb,-⟩:=HA.out.fs
        have yr:=HA.out.fw 3 rfl
        cases dv:punctT u ⟨#[45,45]⟩ with
        |true=>
         cases hl:u.line with
         |true=>
          have hlw:u.line=true:=hl
          replace HT:=hneg HT (by rw [du,dv,hl];simp)
          go_wp2_with fail
          exact HA.out.fin_nd 3 0 rfl rfl rfl rfl rfl HT.out.symm
         |false=>
          have hszu:u.text.size≤16:=by
           have hp:=dv
           unfold punctT at hp
           simp only [Bool.and_eq_true,decide_eq_true_eq] at hp
           rw [hp.2];decide
          replace HT:=hpos HT (by rw [du,dv,hl];rfl)
          go_wp2_with fail
          refine HA.out.stepV HT HN (fun _ h e=>S.target n _ (h.ni 0 rfl) h.s e) ?_ ?_
          ·intro _ _ _ H;go_wp2_with fail;exact⟨rfl,Ans.badh H⟩
          clear zu zn zt zr zpb yr HT HA
          intro _ q12 w12 HT HA
          obtain⟨zu,zn,zt,zr,zpb,-⟩:=HA.out.fs
          have yr:=HA.out.fw 3 rfl
          go_wp2_with fail
          refine HA.out.stepV HT HN (fun _ h e=>P.take hR.ok h.s e) ?_ ?_
          ·intro _ _ _ H;go_wp2_with fail;exact⟨rfl,Ans.badh H⟩
          clear zu zn zt zr zpb yr HT HA
          intro _ q13 w13 HT HA
          obtain⟨zu,zn,zt,zr,zpb,-⟩:=HA.out.fs
          have yr:=HA.out.fw 3 rfl
          replace HT:=ab4 HT
          go_wp2_with fail
          generalize (⟨#[120]⟩:ByteArray)++u.text=xt at*
          refine HA.out.node 28 xt n.from' [(n,an,cn)] (by simp) rfl rfl rfl rfl HT ?_
          clear zu zn zt zr zpb yr HT HA
          intro m am cm w14 _ HT HA
          obtain⟨zu,zn,zt,zr,zpb,-⟩:=HA.out.fs
          have yr:=HA.out.fw 3 rfl
          go_wp2_with fail
          exact HA.out.fin_nd 3 0 rfl rfl rfl rfl rfl HT.out.symm
        |false=>
         replace HT:=hneg HT (by rw [du,dv];simp)
         go_wp2_with fail
         exact HA.out.fin_nd 3 0 rfl rfl rfl rfl rfl HT.out.symm
end
end Go.Proofs.YtibpjkkgfgmkmaaGreatDoor
