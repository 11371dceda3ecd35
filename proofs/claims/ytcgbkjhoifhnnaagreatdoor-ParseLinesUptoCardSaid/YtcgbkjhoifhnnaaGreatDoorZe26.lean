/- Steps (Q2). Conditions: as stated. -/
import Derived.Test.YtcgbkjhoifhnnaaGreatDoorZe11
import Derived.Deep.DrawnRows
set_option maxHeartbeats 1000000
set_option maxRecDepth 100000
namespace Go.Proofs.YtcgbkjhoifhnnaaGreatDoor
section
open Go.RowKit
attribute [local go_sem] ab4 ab5 ab6 ab7 ab8 ab9
attribute [local go_sem ↓] Go.wp_at_zero Go.wp_at_succ
theorem S.funcs {E:PE} {R:(x:Fn)→PM x.Out} (hR:Env E R) {F:Nat→Prop} {w:World} {p:Ps} (must:Bool) (h:St E F w p) (hne:aD9 E.s E.m R must p≠ .out):
  Calls Tryz.prog 114 #[.pointer (some ⟨E.b,0,none⟩),.bool must] w (Ans E F X0 w (aD9 E.s E.m R must p) fun n v w'=>IsP E F w' n v):=by
 obtain⟨T,hT⟩: ∃T,aD9 E.s E.m R must p=T:=⟨_,rfl⟩
 rw [hT] at hne⊢
 unfold aD9 at hT
 have HT:=hJ hT
 have HN:=hJ hne
 have HA:=Sa.start0 (X:=X0) h
 clear h hne hT
 go_enter Tryz.func114,Tryz.ntmps114
 go_upto_region 1 with fail
 replace HA:=HA.out.pZ (g:=w.heap.size) rfl
 generalize (w.alloc (.cells #[.int .i64 0,.string ⟨#[]⟩,.slice none 0 0,.int .i64 0,.int .i64 0] 26))=w1 at*
 obtain⟨zr,-⟩:=HA.out.fs
 have yr:=HA.out.fw 0 rfl
 by_cases hm:must=false
 ·exact absurd (hpos HT hm).out.symm HN.out
 ·have hm2:must=true:=by simpa using hm
  subst hm2
  replace HT:=hneg HT (by decide)
  replace HT:=hget HT
  have cEfrom:=HA.out.c_from
  have lE:=HA.out.lt
  go_wp2_with fail
  refine HA.out.stepV HT HN (fun _ h e=>P.word hR.ok ⟨#[97,115,121,110,99]⟩ h.s e) ?_ ?_
  ·intro _ _ _ H;go_wp2_with fail;exact⟨rfl,Ans.badh H⟩
  clear zr yr cEfrom lE HT HA
  intro a q2 w2 HT HA
  obtain⟨zr,-⟩:=HA.out.fs
  have yr:=HA.out.fw 0 rfl
  cases a with
  |true=>
   replace HT:=hpos HT (by rfl)
   exact absurd HT.out.symm HN.out
  |false=>
   replace HT:=hneg HT (by decide)
   go_wp2_with fail
   refine HA.out.stepV HT HN (fun _ h e=>P.must hR.ok ⟨#[102,117,110,99,116,105,111,110]⟩ h.s e) ?_ ?_
   ·intro _ _ _ H;go_wp2_with fail;exact⟨rfl,Ans.badh H⟩
   clear zr yr HT HA
   intro _ q3 w3 HT HA
   obtain⟨zr,-⟩:=HA.out.fs
   have yr:=HA.out.fw 0 rfl
   go_wp2_with fail
   refine HA.out.stepV HT HN (fun _ h e=>P.is hR.ok ⟨#[42]⟩ h.s e) ?_ ?_
   ·intro _ _ _ H;go_wp2_with fail;exact⟨rfl,Ans.badh H⟩
   clear zr yr HT HA
   intro b q4 w4 HT HA
   obtain⟨zr,-⟩:=HA.out.fs
   have yr:=HA.out.fw 0 rfl
   cases b with
   |true=>
    replace HT:=hpos HT (by rfl)
    go_wp2_with fail
    replace HA:=HA.out.pZ (g:=w4.heap.size) rfl
    refine HA.out.stepN HT HN (fun _ h e=>P.takeIdent hR.ok h.s e) ?_ ?_
    ·intro _ _ _ H;go_wp2_with fail;exact⟨rfl,Ans.badh H⟩
    clear zr yr HT HA
    intro id aid cid q5 w5 HT HA
    obtain⟨zi,zr,-⟩:=HA.out.fs
    have yi:=HA.out.fw 0 rfl
    have yr:=HA.out.fw 1 rfl
    go_upto_region 11 with fail
    replace HA:=HA.out.setN 0 0 rfl rfl rfl
    clear zi zr yi yr
    obtain⟨w6,e8,HA⟩:=HA
    rw [e8]
    clear e8
    dsimp only [ac8] at HA
    obtain⟨zi,zr,-⟩:=HA.out.fs
    have yi:=HA.out.fw 0 rfl
    have yr:=HA.out.fw 1 rfl
    replace HT:=aa5 HT
    go_wp2_with fail
    refine HA.out.stepN HT HN (fun _ h e=>hR.h (.callable ⟨#[42]⟩ p.tok.from' id ⟨#[]⟩) _ _ _ _ (h.ni 0 rfl) h.s e) ?_ ?_
    ·intro _ _ _ H;go_wp2_with fail;exact⟨rfl,Ans.badh H⟩
    clear zi zr yi yr HT HA
    intro k ak ck q7 w7 HT HA
    obtain⟨zi,zr,-⟩:=HA.out.fs
    have yi:=HA.out.fw 0 rfl
    have yr:=HA.out.fw 1 rfl
    go_wp2_with fail
    exact HA.out.fin_nd 1 0 rfl rfl rfl rfl rfl HT.out.symm
   |false=>
    replace HT:=hneg HT (by decide)
    go_wp2_with fail
    replace HA:=HA.out.pZ (g:=w4.heap.size) rfl
    refine HA.out.stepN HT HN (fun _ h e=>P.takeIdent hR.ok h.s e) ?_ ?_
    ·intro _ _ _ H;go_wp2_with fail;exact⟨rfl,Ans.badh H⟩
    clear zr yr HT HA
    intro id aid cid q5 w5 HT HA
    obtain⟨zi,zr,-⟩:=HA.out.fs
    have yi:=HA.out.fw 0 rfl
    have yr:=HA.out.fw 1 rfl
    go_upto_region 11 with fail
    replace HA:=HA.out.setN 0 0 rfl rfl rfl
    clear zi zr yi yr
    obtain⟨w6,e8,HA⟩:=HA
    rw [e8]
    clear e8
    dsimp only [ac8] at HA
    obtain⟨zi,zr,-⟩:=HA.out.fs
    have yi:=HA.out.fw 0 rfl
    have yr:=HA.out.fw 1 rfl
    replace HT:=aa5 HT
    go_wp2_with fail
    refine HA.out.stepN HT HN (fun _ h e=>hR.h (.callable ⟨#[]⟩ p.tok.from' id ⟨#[]⟩) _ _ _ _ (h.ni 0 rfl) h.s e) ?_ ?_
    ·intro _ _ _ H;go_wp2_with fail;exact⟨rfl,Ans.badh H⟩
    clear zi zr yi yr HT HA
    intro k ak ck q7 w7 HT HA
    obtain⟨zi,zr,-⟩:=HA.out.fs
    have yi:=HA.out.fw 0 rfl
    have yr:=HA.out.fw 1 rfl
    go_wp2_with fail
    exact HA.out.fin_nd 1 0 rfl rfl rfl rfl rfl HT.out.symm
end
end Go.Proofs.YtcgbkjhoifhnnaaGreatDoor
