/- Steps (Qi Qj). Conditions: as stated. -/
import Derived.Test.YtibpjkkgfgmkmaaGreatDoorZc16
set_option maxHeartbeats 8000000
set_option maxRecDepth 100000
namespace Go.Proofs.YtibpjkkgfgmkmaaGreatDoor
section
open Go.RowKit
attribute [local go_sem] ab5 ab6 ab7 ab8 ab9 ac0
attribute [local go_sem ↓] Go.wp_at_zero Go.wp_at_succ
theorem Pc.kid1 {E:PE} {F:Nat→Prop} {w:World} {n:Nd} {a:Option Addr} {cap:Nat} (h:IsP E F w n (.agg #[.int .i64 n.kind,.string n.text,.slice a n.kids.length cap,.int .i64 n.from',.int .i64 n.till])) (h2: ¬n.kids.length<2):
  ∃g off,a=some ⟨g,off,none⟩∧g<w.heap.size∧w.cell? ⟨g,off+5,none⟩=some (.int .i64 ((n.kids.drop 1).headD .zero).kind):=by
 obtain⟨b,c,hv,hc,hr⟩:=h
 have e:b=a:=by
  simp only [Value.agg.injEq] at hv
  have:=congrArg (fun c:Array Value=>c[2]?) hv
  simp at this
  exact this.1.symm
 subst e
 obtain⟨g,off,b2,c2,ha,hs,c0,_⟩:=Pc.kid hr 1 (by omega)
 refine⟨g,off,ha,hs.1,?_⟩
 have e2:(n.kids.drop 1).headD .zero=n.kids[1]:=by
  rw [List.drop_eq_getElem_cons (by omega:1<n.kids.length)]
  rfl
 rw [e2]
 exact c0
def LhR (E:PE) (R:(x:Fn)→PM x.Out) (F:Nat→Prop) (w:World) (T:Res Nd) (gr gn:Nat) (k:Nat) (wr:World):Prop:=
 ∃(n:Nd) (a:Option Addr) (c:Nat) (q:Ps),Hid (ae5.linkL E.s R k n q=T)∧Hid (Sa E F (X0) w wr q [(gr,true,.z),(gn,true,.nd n a c)] [(n,a,c)] none)
theorem bG4 {i:Int} (h:okI i=true):0≤i∧i≤16777216:=by
 unfold okI at h
 simpa using h
theorem S.leftHand {E:PE} {R:(x:Fn)→PM x.Out} (hR:Env E R) {F:Nat→Prop} {w:World} {p:Ps} (f:Nat) (h:St E F w p) (hne:ae5 E.s f R p≠ .out):
  Calls Tryz.prog 205 #[.pointer (some ⟨E.b,0,none⟩)] w (Ans E F X0 w (ae5 E.s f R p) fun n v w'=>IsP E F w' n v):=by
 obtain⟨T,hT⟩: ∃T,ae5 E.s f R p=T:=⟨_,rfl⟩
 rw [hT] at hne⊢
 unfold ae5 at hT
 have HT:=hJ hT
 have HN:=hJ hne
 have HA:=Sa.start0 (X:=X0) h
 clear h hne hT
 go_enter Tryz.func205,Tryz.ntmps205
 go_wp2_with fail
 replace HA:=HA.out.pZ (g:=w.heap.size) rfl
 refine HA.out.stepV HT HN (fun _ h e=>P.peek hR.ok 2 h.s e) ?_ ?_
 ·intro _ _ _ H;go_wp2_with fail;exact⟨rfl,Ans.badh H⟩
 clear HT HA
 intro t q1 w1 HT HA
 obtain⟨zr,-⟩:=HA.out.fs
 have yr:=HA.out.fw 0 rfl
 replace HT:=hget HT
 have cEarrow:=HA.out.c_arrow
 have lE:=HA.out.lt
 go_wp2_with fail
 replace HA:=HA.out.pT (g:=w1.heap.size) rfl t
 go_quiet (fail)
 clear zr yr cEarrow lE
 generalize hwq:World.drewN (w1.alloc (.cells #[.int .i64 t.kind,.string t.text,.int .i64 t.from',.int .i64 t.till,.bool t.line] 50)) _=w2
 replace HA:=HA.out.drewE hwq
 clear hwq
 obtain⟨zt,zr,-⟩:=HA.out.fs
 have yr:=HA.out.fw 1 rfl
 go_wp2_with fail
 refine HA.out.stepN HT HN (fun _ h e=>hR.h (.base t true) _ _ _ h.s e) ?_ ?_
 ·intro _ _ _ H;go_wp2_with fail;exact⟨rfl,Ans.badh H⟩
 clear zt zr yr HT HA
 intro n an cn q3 w3 HT HA
 obtain⟨zt,zr,-⟩:=HA.out.fs
 have yr:=HA.out.fw 1 rfl
 by_cases hk22:n.kind=22
 focus
  have hk22w:=kt hk22
  replace HT:=hpos HT (by exact hk22)
  have hk22':=hJ hk22
  clear hk22
  go_wp2_with fail
  exact HA.out.fin_ndA 1 0 rfl rfl rfl rfl rfl HT.out.symm
 focus
  have hk22w:=kf hk22
  replace HT:=hneg HT (by exact hk22)
  have hk22':=hJ hk22
  clear hk22
  cases hm:decide (t.from'=q1.arrow)
  focus
   have hmw:(t.from'==q1.arrow)=false:=by rw [beq_eq_false_iff_ne];exact of_decide_eq_false hm
   replace HT:=hneg HT (by rw [hm];simp)
   go_wp2_with fail
   replace HA:=HA.out.pN (g:=w3.heap.size) rfl n an cn
   clear zt zr yr
   replace HA:=hJ (HA.out.pick [2,0] [0] (by decide))
   dsimp only [pick,nth] at HA
   generalize (w3.alloc (.cells #[.int .i64 n.kind,.string n.text,.slice an n.kids.length cn,.int .i64 n.from',.int .i64 n.till] 28))=wj at HA⊢
   generalize q3=qj at HA HT
   generalize n=nj at HA HT⊢
   generalize an=anj at HA⊢
   generalize cn=cnj at HA⊢
  rotate_left
  focus
   have hmw:(t.from'==q1.arrow)=true:=by rw [beq_iff_eq];exact of_decide_eq_true hm
   by_cases hk1:n.kind=1
   focus
    have hk1w:=kt hk1
    have e1:decide (n.kind=1)=true:=decide_eq_true hk1
    have hk1':=hJ hk1
    clear hk1
    by_cases ha:n.text=⟨#[97,115,121,110,99]⟩
    focus
     have haw:(n.text.toList== [97,115,121,110,99])=true:=xt ha
     replace HT:=hpos HT (by rw [hm,e1,ha];rfl)
     have ha':=hJ ha
     clear ha
     cases hok:(okI n.from' && okI n.till && decide (t.text.size≤16777216))
     focus
      replace HT:=hneg HT (by rw [hok];decide)
      exact absurd HT.out.symm HN.out
     focus
      replace HT:=hpos HT (by exact hok)
      obtain⟨hok1,hok3⟩:=Bool.and_eq_true_iff.1 hok
      obtain⟨hok1,hok2⟩:=Bool.and_eq_true_iff.1 hok1
      have hoa:=bG4 hok1
      have hob:=bG4 hok2
      have hoc:=of_decide_eq_true hok3
      clear hok hok1 hok2 hok3
      by_cases hsz:n.till - n.from'=t.text.size
      focus
       have hszw:(n.till - n.from'==(t.text.size:Int))=true:=by rw [beq_iff_eq];exact hsz
       replace HT:=hpos HT (by exact hsz)
       have hsz':=hJ hsz
       clear hsz
       go_wp2_with fail
       replace HA:=HA.out.pN (g:=w3.heap.size) rfl n an cn
       refine HA.out.stepV HT HN (fun _ h e=>P.peek hR.ok 1 h.s e) ?_ ?_
       ·intro _ _ _ H;go_wp2_with fail;exact⟨rfl,Ans.badh H⟩
       clear zt zr yr HT HA
       intro next q4 w4 HT HA
       obtain⟨zn,zt,zr,-⟩:=HA.out.fs
       have yn:=HA.out.fw 0 rfl
       have yr:=HA.out.fw 2 rfl
       go_wp2_with fail
       replace HA:=HA.out.pT (g:=w4.heap.size) rfl next
       refine HA.out.stepQ (fun _ h=>P.punct next ⟨#[40]⟩ _) ?_
       clear zn zt zr yn yr HA
       intro w5 HA
       obtain⟨znext,zn,zt,zr,-⟩:=HA.out.fs
       have yn:=HA.out.fw 1 rfl
       have yr:=HA.out.fw 3 rfl
       cases hp:punctT next ⟨#[40]⟩
       focus
        replace HT:=hneg HT (by rw [hp,Bool.false_and];decide)
        go_wp2_with fail
        clear znext zn zt zr yn yr
        replace HA:=hJ (HA.out.pick [3,1] [0] (by decide))
        dsimp only [pick,nth] at HA
        generalize w5=wj at HA⊢
        generalize q4=qj at HA HT
        generalize n=nj at HA HT⊢
        generalize an=anj at HA⊢
        generalize cn=cnj at HA⊢
       rotate_left
       focus
        cases hl:next.line
        focus
         replace HT:=hpos HT (by rw [hp,hl];rfl)
         go_wp2_with fail
         refine HA.out.stepN HT HN (fun _ h e=>hR.h .args _ _ _ h.s e) ?_ ?_
         ·intro _ _ _ H;go_wp2_with fail;exact⟨rfl,Ans.badh H⟩
         clear znext zn zt zr yn yr HT HA
         intro y ay cy q6 w6 HT HA
         obtain⟨znext,zn,zt,zr,-⟩:=HA.out.fs
         have yn:=HA.out.fw 1 rfl
         have yr:=HA.out.fw 3 rfl
         go_wp2_with fail
         replace HA:=HA.out.pN (g:=w6.heap.size) rfl y ay cy
         refine HA.out.stepV HT HN (fun _ h e=>P.peek hR.ok 1 h.s e) ?_ ?_
         ·intro _ _ _ H;go_wp2_with fail;exact⟨rfl,Ans.badh H⟩
         clear znext zn zt zr yn yr HT HA
         intro u q7 w7 HT HA
         obtain⟨zy,znext,zn,zt,zr,-⟩:=HA.out.fs
         have yn:=HA.out.fw 2 rfl
         have yr:=HA.out.fw 4 rfl
         go_wp2_with fail
         replace HA:=HA.out.pT (g:=w7.heap.size) rfl u
         refine HA.out.stepQ (fun _ h=>P.punct u ⟨#[61,62]⟩ _) ?_
         clear zy znext zn zt zr yn yr HA
         intro w8 HA
         obtain⟨zu,zy,znext,zn,zt,zr,-⟩:=HA.out.fs
         have yn:=HA.out.fw 3 rfl
         have yr:=HA.out.fw 5 rfl
         cases ha:punctT u ⟨#[61,62]⟩
         focus
          replace HT:=hneg HT (by rw [ha,Bool.false_and];decide)
          go_wp2_with fail
          refine HA.out.node 35 ⟨#[]⟩ n.from' [(n,an,cn),(y,ay,cy)] (by simp) rfl rfl rfl rfl HT ?_
          clear zu zy znext zn zt zr yn yr HT HA
          intro m am cm w9 _ HT HA
          obtain⟨zu,zy,znext,zn,zt,zr,-⟩:=HA.out.fs
          have yn:=HA.out.fw 3 rfl
          have yr:=HA.out.fw 5 rfl
          go_upto_region 14 with fail
          replace HA:=HA.out.setN 3 0 rfl rfl rfl
          clear zu zy znext zn zt zr yn yr
          obtain⟨w10,e8,HA⟩:=HA
          rw [e8]
          clear e8
          dsimp only [ad3] at HA
          obtain⟨zu,zy,znext,zn,zt,zr,-⟩:=HA.out.fs
          have yn:=HA.out.fw 3 rfl
          have yr:=HA.out.fw 5 rfl
          go_wp2_with fail
          clear zu zy znext zn zt zr yn yr
          replace HA:=hJ (HA.out.pick [5,3] [0] (by decide))
          dsimp only [pick,nth] at HA
          generalize w10=wj at HA⊢
          generalize q7=qj at HA HT
          generalize m=nj at HA HT⊢
          generalize am=anj at HA⊢
          generalize cm=cnj at HA⊢
         rotate_left
         focus
          cases hu:u.line
          focus
           replace HT:=hpos HT (by rw [ha,hu];rfl)
           rcases an6 HT HN with ⟨ps,r188,HX,hk⟩|⟨c,i,HX,hk⟩
           ·replace HT:=hk;clear hk
            replace HT:=ab4 HT
            rcases an6 HT HN with ⟨z,r191,HX2,hk⟩|⟨c,i,HX2,hk⟩
            ·replace HT:=hk;clear hk
             go_wp2_with fail
             replace HA:=HA.out.drew
             go_region_with (first|(go_at_call 243;refine HA.out.gotN HX (fun _ h e=>hR.h (.params y) _ _ _ _ (h.ni 0 rfl) h.s e) ?_;clear zu zy znext zn zt zr yn yr HA;intro aps cps w9 HA;obtain⟨zu,zy,znext,zn,zt,zr,-⟩:=HA.out.fs;have yn:=HA.out.fw 3 rfl;have yr:=HA.out.fw 5 rfl)|(go_at_call 83;refine HA.out.gotN HX2 (fun _ h e=>hR.h (.body ⟨#[97,115,121,110,99]⟩ n.from' ps) _ _ _ _ (h.ni 0 rfl) h.s e) ?_;clear zu zy znext zn zt zr yn yr HA;intro az cz w10 HA;obtain⟨zu,zy,znext,zn,zt,zr,-⟩:=HA.out.fs;have yn:=HA.out.fw 3 rfl;have yr:=HA.out.fw 5 rfl))
             all_goals
              go_wp2_with fail
              exact HA.out.fin_nd 5 0 rfl rfl rfl rfl rfl HT.out.symm
            ·replace HT:=hk;clear hk
             go_wp2_with fail
             replace HA:=HA.out.drew
             go_region_with (first|(go_at_call 243;refine HA.out.gotN HX (fun _ h e=>hR.h (.params y) _ _ _ _ (h.ni 0 rfl) h.s e) ?_;clear zu zy znext zn zt zr yn yr HA;intro aps cps w9 HA;obtain⟨zu,zy,znext,zn,zt,zr,-⟩:=HA.out.fs;have yn:=HA.out.fw 3 rfl;have yr:=HA.out.fw 5 rfl)|(go_at_call 83;refine HA.out.gotbad (.agg #[.int .i64 0,.string ⟨#[]⟩,.slice none 0 0,.int .i64 0,.int .i64 0]) HX2 HT (fun _ h e=>hR.h (.body ⟨#[97,115,121,110,99]⟩ n.from' ps) _ _ _ _ (h.ni 0 rfl) h.s e) (fun _ H=>by (go_wp2_with fail);exact⟨rfl,Ans.badh H⟩) ?_;intro HF))
             all_goals
              exact HF.out.elim
           ·replace HT:=hk;clear hk
            go_wp2_with fail
            replace HA:=HA.out.drew
            go_region_with (first|(go_at_call 243;refine HA.out.gotbad (.agg #[.int .i64 0,.string ⟨#[]⟩,.slice none 0 0,.int .i64 0,.int .i64 0]) HX HT (fun _ h e=>hR.h (.params y) _ _ _ _ (h.ni 0 rfl) h.s e) (fun _ H=>by (go_wp2_with fail);exact⟨rfl,Ans.badh H⟩) ?_;intro HF)|(go_at_call 83;refine at3 (.agg #[.int .i64 0,.string ⟨#[]⟩,.slice none 0 0,.int .i64 0,.int .i64 0]) HF ?_))
            all_goals
             exact HF.out.elim
          focus
           have huw:u.line=true:=hu
           have hu':=hJ hu
           clear hu
           replace HT:=hneg HT (by rw [ha,hu'.out];decide)
           go_wp2_with fail
           refine HA.out.node 35 ⟨#[]⟩ n.from' [(n,an,cn),(y,ay,cy)] (by simp) rfl rfl rfl rfl HT ?_
           clear zu zy znext zn zt zr yn yr HT HA
           intro m am cm w9 _ HT HA
           obtain⟨zu,zy,znext,zn,zt,zr,-⟩:=HA.out.fs
           have yn:=HA.out.fw 3 rfl
           have yr:=HA.out.fw 5 rfl
           go_upto_region 14 with fail
           replace HA:=HA.out.setN 3 0 rfl rfl rfl
           clear zu zy znext zn zt zr yn yr
           obtain⟨w10,e8,HA⟩:=HA
           rw [e8]
           clear e8
           dsimp only [ad3] at HA
           obtain⟨zu,zy,znext,zn,zt,zr,-⟩:=HA.out.fs
           have yn:=HA.out.fw 3 rfl
           have yr:=HA.out.fw 5 rfl
           go_wp2_with fail
           clear zu zy znext zn zt zr yn yr
           replace HA:=hJ (HA.out.pick [5,3] [0] (by decide))
           dsimp only [pick,nth] at HA
           generalize w10=wj at HA⊢
           generalize q7=qj at HA HT
           generalize m=nj at HA HT⊢
           generalize am=anj at HA⊢
           generalize cm=cnj at HA⊢
        rotate_left 2
        focus
         have hlw:next.line=true:=hl
         replace HT:=hneg HT (by rw [hp,hl];decide)
         have hl':=hJ hl
         clear hl
         go_wp2_with fail
         clear znext zn zt zr yn yr
         replace HA:=hJ (HA.out.pick [3,1] [0] (by decide))
         dsimp only [pick,nth] at HA
         generalize w5=wj at HA⊢
         generalize q4=qj at HA HT
         generalize n=nj at HA HT⊢
         generalize an=anj at HA⊢
         generalize cn=cnj at HA⊢
      rotate_left 4
      focus
       have hszw:(n.till - n.from'==(t.text.size:Int))=false:=by rw [beq_eq_false_iff_ne];exact hsz
       replace HT:=hneg HT (by exact hsz)
       have hsz':=hJ hsz
       clear hsz
       go_wp2_with fail
       replace HA:=HA.out.pN (g:=w3.heap.size) rfl n an cn
       clear zt zr yr
       replace HA:=hJ (HA.out.pick [2,0] [0] (by decide))
       dsimp only [pick,nth] at HA
       generalize (w3.alloc (.cells #[.int .i64 n.kind,.string n.text,.slice an n.kids.length cn,.int .i64 n.from',.int .i64 n.till] 28))=wj at HA⊢
       generalize q3=qj at HA HT
       generalize n=nj at HA HT⊢
       generalize an=anj at HA⊢
       generalize cn=cnj at HA⊢
    rotate_left 5
    focus
     have haw:(n.text.toList== [97,115,121,110,99])=false:=xf ha
     have ha':=hJ ha
     clear ha
     replace HT:=hneg HT (by rw [decide_eq_false ha'.out];simp)
     go_wp2_with fail
     replace HA:=HA.out.pN (g:=w3.heap.size) rfl n an cn
     clear zt zr yr
     replace HA:=hJ (HA.out.pick [2,0] [0] (by decide))
     dsimp only [pick,nth] at HA
     generalize (w3.alloc (.cells #[.int .i64 n.kind,.string n.text,.slice an n.kids.length cn,.int .i64 n.from',.int .i64 n.till] 28))=wj at HA⊢
     generalize q3=qj at HA HT
     generalize n=nj at HA HT⊢
     generalize an=anj at HA⊢
     generalize cn=cnj at HA⊢
   rotate_left 6
   focus
    have hk1w:=kf hk1
    have e1:decide (n.kind=1)=false:=decide_eq_false hk1
    have hk1':=hJ hk1
    clear hk1
    replace HT:=hneg HT (by rw [e1];simp)
    go_wp2_with fail
    replace HA:=HA.out.pN (g:=w3.heap.size) rfl n an cn
    clear zt zr yr
    replace HA:=hJ (HA.out.pick [2,0] [0] (by decide))
    dsimp only [pick,nth] at HA
    generalize (w3.alloc (.cells #[.int .i64 n.kind,.string n.text,.slice an n.kids.length cn,.int .i64 n.from',.int .i64 n.till] 28))=wj at HA⊢
    generalize q3=qj at HA HT
    generalize n=nj at HA HT⊢
    generalize an=anj at HA⊢
    generalize cn=cnj at HA⊢
 all_goals
  obtain⟨zr,zn,-⟩:=HA.out.fs
  have yr:=HA.out.fw 0 rfl
  have yn:=HA.out.fw 1 rfl
  go_loopg [] f (fun k wr=>LhR E R F w T (w.heap.size) (w3.heap.size) k wr)
  case atStart=>exact⟨nj,anj,cnj,_,HT,HA.out.pick [0,1] [0] (by decide)⟩
  case round=>
   clear zr zn yr yn HT HA
   obtain⟨n,an,cn,q,HT,HA⟩:=hrel
   cases gk with
   |zero=>exact absurd HT.out.symm HN.out
   |succ k=>
    unfold ae5.linkL at HT
    obtain⟨zr,zn,-⟩:=HA.out.fs
    have yr:=HA.out.fw 0 rfl
    have yn:=HA.out.fw 1 rfl
    go_wp2_with fail
    refine HA.out.stepV HT HN (fun _ h e=>P.peek hR.ok 1 h.s e) ?_ ?_
    ·intro _ _ _ H;go_wp2_with fail;exact⟨rfl,Ans.badh H⟩
    clear zr zn yr yn HT HA
    intro next q4 w4 HT HA
    obtain⟨zr,zn,-⟩:=HA.out.fs
    have yr:=HA.out.fw 0 rfl
    have yn:=HA.out.fw 1 rfl
    go_wp2_with fail
    replace HA:=HA.out.pT (g:=w4.heap.size) rfl next
    refine HA.out.stepQ (fun _ h=>P.punct next ⟨#[63,46]⟩ _) ?_
    clear zr zn yr yn HA
    intro w5 HA
    obtain⟨znext,zr,zn,-⟩:=HA.out.fs
    have yr:=HA.out.fw 1 rfl
    have yn:=HA.out.fw 2 rfl
    cases hc:punctT next ⟨#[63,46]⟩ with
    |true=>
     replace HT:=hpos HT (by exact hc)
     by_cases hk37:n.kind=37
     ·have hk37w:=kt hk37
      by_cases h2:n.kids.length<2
      ·replace HT:=hpos HT (by exact⟨hk37,h2⟩)
       exact absurd HT.out.symm HN.out
      ·replace HT:=hneg HT (by exact fun h=>h2 h.2)
       obtain⟨F9,h⟩:=HA.out
       obtain⟨g0,off0,rfl,hg0,hc0⟩:=Pc.kid1 (h.ni 0 rfl) h2
       clear h F9
       have h2i:(1:Int)<(n.kids.length:Int):=by omega
       have H2:=hJ h2
       have e37:decide (n.kind=37)=true:=decide_eq_true hk37
       clear h2
       obtain⟨kk,hkk⟩: ∃kk,((n.kids.drop 1).headD .zero).kind=kk:=⟨_,rfl⟩
       rw [hkk] at hc0
       have HKK:=hJ hkk
       clear hkk
       have hk37':=hJ hk37
       clear hk37
       by_cases hk0:kk=0
       ·have hk0w:=kt hk0
        replace HT:=hpos HT (by unfold ao2;rw [e37,HKK.out,hk0];rfl)
        have hk0':=hJ hk0
        clear hk0
        go_wp2_with fail
        have H:=HA.out.bad HT.out.symm
        refine HA.out.odd ?_
        go_wp2_with fail
        exact⟨rfl,Ans.badh H⟩
       ·have hk0w:=kf hk0
        replace HT:=hneg HT (by unfold ao2;rw [e37,HKK.out,decide_eq_false hk0];decide)
        have hk0':=hJ hk0
        clear hk0
        go_wp2_with fail
        replace HT:=ab4 HT
        refine HA.out.stepN HT HN (fun _ h e=>hR.h (.chain n) _ _ _ _ (h.ni 0 rfl) h.s e) ?_ ?_
        ·intro _ _ _ H;go_wp2_with fail;exact⟨rfl,Ans.badh H⟩
        clear znext zr zn yr yn HT HA
        intro z az cz q6 w6 HT HA
        obtain⟨znext,zr,zn,-⟩:=HA.out.fs
        have yr:=HA.out.fw 1 rfl
        have yn:=HA.out.fw 2 rfl
        go_wp2_with fail
        exact HA.out.fin_nd 1 0 rfl rfl rfl rfl rfl HT.out.symm
     ·have hk37w:=kf hk37
      replace HT:=hneg HT (by exact fun h=>hk37 h.1)
      have e37:decide (n.kind=37)=false:=decide_eq_false hk37
      have hk37':=hJ hk37
      clear hk37
      replace HT:=hneg HT (by unfold ao2;rw [e37,Bool.false_and];decide)
      go_wp2_with fail
      replace HT:=ab4 HT
      refine HA.out.stepN HT HN (fun _ h e=>hR.h (.chain n) _ _ _ _ (h.ni 0 rfl) h.s e) ?_ ?_
      ·intro _ _ _ H;go_wp2_with fail;exact⟨rfl,Ans.badh H⟩
      clear znext zr zn yr yn HT HA
      intro z az cz q6 w6 HT HA
      obtain⟨znext,zr,zn,-⟩:=HA.out.fs
      have yr:=HA.out.fw 1 rfl
      have yn:=HA.out.fw 2 rfl
      go_wp2_with fail
      exact HA.out.fin_nd 1 0 rfl rfl rfl rfl rfl HT.out.symm
    |false=>
     replace HT:=hneg HT (by rw [hc];decide)
     go_wp2_with fail
     refine HA.out.stepL HT HN (fun _ h e=>hR.h (.link n true true) _ _ _ _ (h.ni 0 rfl) h.s e) ?_ ?_
     ·intro _ _ _ H;go_wp2_with fail;exact⟨rfl,Ans.badh H⟩
     clear znext zr zn yr yn HT HA
     intro m b2 am cm q6 w6 HT HA
     dsimp only at HT
     obtain⟨znext,zr,zn,-⟩:=HA.out.fs
     have yr:=HA.out.fw 1 rfl
     have yn:=HA.out.fw 2 rfl
     go_upto_region 21 with fail
     replace HA:=HA.out.setN 2 0 rfl rfl rfl
     clear znext zr zn yr yn
     obtain⟨w7,e8,HA⟩:=HA
     rw [e8]
     clear e8
     dsimp only [ad3] at HA
     obtain⟨znext,zr,zn,-⟩:=HA.out.fs
     have yr:=HA.out.fw 1 rfl
     have yn:=HA.out.fw 2 rfl
     cases b2 with
     |true=>
      replace HT:=hpos HT (by rfl)
      go_wp2_with fail
      go_roundg k
      case measure=>exact Nat.lt_succ_self k
      case rel=>exact⟨m,am,cm,_,HT,HA.out.pick [1,2] [0] (by decide)⟩
     |false=>
      replace HT:=hneg HT (by decide)
      go_wp2_with fail
      exact HA.out.fin_nd 1 0 rfl rfl rfl rfl rfl HT.out.symm
end
section
open Go.RowKit
attribute [local go_sem] ab5 ab6 ab7 ab8 ab9 ac0
attribute [local go_sem ↓] Go.wp_at_zero Go.wp_at_succ
theorem S.base {E:PE} {R:(x:Fn)→PM x.Out} (hR:Env E R) {F:Nat→Prop} {w:World} {p:Ps} (t:Tk) (calls:Bool) (h:St E F w p) (hne:au9 E.s E.m R t calls p≠ .out):
  Calls Tryz.prog 241 #[.pointer (some ⟨E.b,0,none⟩),.agg #[.int .i64 t.kind,.string t.text,.int .i64 t.from',.int .i64 t.till,.bool t.line],.bool calls] w (Ans E F X0 w (au9 E.s E.m R t calls p) fun n v w'=>IsP E F w' n v):=by
 obtain⟨T,hT⟩: ∃T,au9 E.s E.m R t calls p=T:=⟨_,rfl⟩
 rw [hT] at hne⊢
 unfold au9 at hT
 have HT:=hJ hT
 have HN:=hJ hne
 have HA:=Sa.start0 (X:=X0) h
 clear h hne hT
 go_enter Tryz.func241,Tryz.ntmps241
 go_wp2_with fail
 replace HA:=HA.out.pT (g:=w.heap.size) rfl t
 replace HA:=HA.out.pZ (g:=(w.heap.size+1)) (by simp)
 refine HA.out.stepQ (fun _ h=>P.name t ⟨#[110,101,119]⟩ _) ?_
 clear HA
 intro w1 HA
 obtain⟨zr,zt,-⟩:=HA.out.fs
 have yr:=HA.out.fw 0 rfl
 cases d0:nameT t ⟨#[110,101,119]⟩ with
 |true=>
  replace HT:=hpos HT (by exact d0)
  go_wp2_with fail
  refine HA.out.stepV HT HN (fun _ h e=>P.take hR.ok h.s e) ?_ ?_
  ·intro _ _ _ H;go_wp2_with fail;exact⟨rfl,Ans.badh H⟩
  clear zr zt yr HT HA
  intro _ q2 w2 HT HA
  obtain⟨zr,zt,-⟩:=HA.out.fs
  have yr:=HA.out.fw 0 rfl
  replace HT:=ab4 HT
  go_wp2_with fail
  refine HA.out.stepN HT HN (fun _ h e=>hR.h (.new t.from') _ _ _ h.s e) ?_ ?_
  ·intro _ _ _ H;go_wp2_with fail;exact⟨rfl,Ans.badh H⟩
  clear zr zt yr HT HA
  intro z az cz q3 w3 HT HA
  obtain⟨zr,zt,-⟩:=HA.out.fs
  have yr:=HA.out.fw 0 rfl
  go_wp2_with fail
  exact HA.out.fin_nd 0 0 rfl rfl rfl rfl rfl HT.out.symm
 |false=>
  replace HT:=hneg HT (by rw [d0];decide)
  go_wp2_with fail
  refine HA.out.stepQ (fun _ h=>P.name t ⟨#[115,117,112,101,114]⟩ _) ?_
  clear zr zt yr HA
  intro w2 HA
  obtain⟨zr,zt,-⟩:=HA.out.fs
  have yr:=HA.out.fw 0 rfl
  cases d1:nameT t ⟨#[115,117,112,101,114]⟩ with
  |true=>
   replace HT:=hpos HT (by exact d1)
   go_wp2_with fail
   refine HA.out.stepV HT HN (fun _ h e=>P.take hR.ok h.s e) ?_ ?_
   ·intro _ _ _ H;go_wp2_with fail;exact⟨rfl,Ans.badh H⟩
   clear zr zt yr HT HA
   intro u q3 w3 HT HA
   obtain⟨zr,zt,-⟩:=HA.out.fs
   have yr:=HA.out.fw 0 rfl
   go_wp2_with fail
   refine HA.out.leaf 6 u ?_
   clear zr zt yr HA
   intro n an cn w4 HE HA
   rw [HE.out] at HT
   clear HE
   obtain⟨zr,zt,-⟩:=HA.out.fs
   have yr:=HA.out.fw 0 rfl
   go_wp2_with fail
   replace HA:=HA.out.pN (g:=w4.heap.size) rfl n an cn
   refine HA.out.stepV HT HN (fun _ h e=>P.peek hR.ok 1 h.s e) ?_ ?_
   ·intro _ _ _ H;go_wp2_with fail;exact⟨rfl,Ans.badh H⟩
   clear zr zt yr HT HA
   intro next q5 w5 HT HA
   obtain⟨zn,zr,zt,-⟩:=HA.out.fs
   have yn:=HA.out.fw 0 rfl
   have yr:=HA.out.fw 1 rfl
   go_wp2_with fail
   replace HA:=HA.out.pT (g:=w5.heap.size) rfl next
   refine HA.out.stepQ (fun _ h=>P.punct next ⟨#[46]⟩ _) ?_
   clear zn zr zt yn yr HA
   intro w6 HA
   obtain⟨znext,zn,zr,zt,-⟩:=HA.out.fs
   have yn:=HA.out.fw 1 rfl
   have yr:=HA.out.fw 2 rfl
   cases e0:punctT next ⟨#[46]⟩ with
   |true=>
    replace HT:=hneg HT (by rw [e0];simp)
    go_wp2_with fail
    refine HA.out.stepL HT HN (fun _ h e=>hR.h (.link n calls false) _ _ _ _ (h.ni 0 rfl) h.s e) ?_ ?_
    ·intro _ _ _ H;go_wp2_with fail;exact⟨rfl,Ans.badh H⟩
    clear znext zn zr zt yn yr HT HA
    intro m b2 am cm q7 w7 HT HA
    dsimp only at HT
    obtain⟨znext,zn,zr,zt,-⟩:=HA.out.fs
    have yn:=HA.out.fw 1 rfl
    have yr:=HA.out.fw 2 rfl
    go_upto_region 10 with fail
    replace HA:=HA.out.setN 1 0 rfl rfl rfl
    clear znext zn zr zt yn yr
    obtain⟨w8,e8,HA⟩:=HA
    rw [e8]
    clear e8
    dsimp only [ad3] at HA
    obtain⟨znext,zn,zr,zt,-⟩:=HA.out.fs
    have yn:=HA.out.fw 1 rfl
    have yr:=HA.out.fw 2 rfl
    go_wp2_with fail
    exact HA.out.fin_nd 2 0 rfl rfl rfl rfl rfl HT.out.symm
   |false=>
    go_wp2_with fail
    refine HA.out.stepQ (fun _ h=>P.punct next ⟨#[91]⟩ _) ?_
    clear znext zn zr zt yn yr HA
    intro w7 HA
    obtain⟨znext,zn,zr,zt,-⟩:=HA.out.fs
    have yn:=HA.out.fw 1 rfl
    have yr:=HA.out.fw 2 rfl
    cases e1:punctT next ⟨#[91]⟩ with
    |true=>
     replace HT:=hneg HT (by rw [e0,e1];simp)
     go_wp2_with fail
     refine HA.out.stepL HT HN (fun _ h e=>hR.h (.link n calls false) _ _ _ _ (h.ni 0 rfl) h.s e) ?_ ?_
     ·intro _ _ _ H;go_wp2_with fail;exact⟨rfl,Ans.badh H⟩
     clear znext zn zr zt yn yr HT HA
     intro m b2 am cm q8 w8 HT HA
     dsimp only at HT
     obtain⟨znext,zn,zr,zt,-⟩:=HA.out.fs
     have yn:=HA.out.fw 1 rfl
     have yr:=HA.out.fw 2 rfl
     go_upto_region 10 with fail
     replace HA:=HA.out.setN 1 0 rfl rfl rfl
     clear znext zn zr zt yn yr
     obtain⟨w9,e8,HA⟩:=HA
     rw [e8]
     clear e8
     dsimp only [ad3] at HA
     obtain⟨znext,zn,zr,zt,-⟩:=HA.out.fs
     have yn:=HA.out.fw 1 rfl
     have yr:=HA.out.fw 2 rfl
     go_wp2_with fail
     exact HA.out.fin_nd 2 0 rfl rfl rfl rfl rfl HT.out.symm
    |false=>
     cases calls with
     |true=>
      go_wp2_with fail
      refine HA.out.stepQ (fun _ h=>P.punct next ⟨#[40]⟩ _) ?_
      clear znext zn zr zt yn yr HA
      intro w8 HA
      obtain⟨znext,zn,zr,zt,-⟩:=HA.out.fs
      have yn:=HA.out.fw 1 rfl
      have yr:=HA.out.fw 2 rfl
      cases e2:punctT next ⟨#[40]⟩ with
      |true=>
       replace HT:=hneg HT (by rw [e0,e1,e2];decide)
       go_wp2_with fail
       refine HA.out.stepL HT HN (fun _ h e=>hR.h (.link n true false) _ _ _ _ (h.ni 0 rfl) h.s e) ?_ ?_
       ·intro _ _ _ H;go_wp2_with fail;exact⟨rfl,Ans.badh H⟩
       clear znext zn zr zt yn yr HT HA
       intro m b2 am cm q9 w9 HT HA
       dsimp only at HT
       obtain⟨znext,zn,zr,zt,-⟩:=HA.out.fs
       have yn:=HA.out.fw 1 rfl
       have yr:=HA.out.fw 2 rfl
       go_upto_region 10 with fail
       replace HA:=HA.out.setN 1 0 rfl rfl rfl
       clear znext zn zr zt yn yr
       obtain⟨w10,e8,HA⟩:=HA
       rw [e8]
       clear e8
       dsimp only [ad3] at HA
       obtain⟨znext,zn,zr,zt,-⟩:=HA.out.fs
       have yn:=HA.out.fw 1 rfl
       have yr:=HA.out.fw 2 rfl
       go_wp2_with fail
       exact HA.out.fin_nd 2 0 rfl rfl rfl rfl rfl HT.out.symm
      |false=>
       replace HT:=hpos HT (by rw [e0,e1,e2];rfl)
       go_wp2_with fail
       have H:=HA.out.bad HT.out.symm
       refine HA.out.odd ?_
       go_wp2_with fail
       exact⟨rfl,Ans.badh H⟩
     |false=>
      replace HT:=hpos HT (by rw [e0,e1];rfl)
      go_wp2_with fail
      have H:=HA.out.bad HT.out.symm
      refine HA.out.odd ?_
      go_wp2_with fail
      exact⟨rfl,Ans.badh H⟩
  |false=>
   replace HT:=hneg HT (by rw [d1];decide)
   go_wp2_with fail
   refine HA.out.stepQ (fun _ h=>P.name t ⟨#[105,109,112,111,114,116]⟩ _) ?_
   clear zr zt yr HA
   intro w3 HA
   obtain⟨zr,zt,-⟩:=HA.out.fs
   have yr:=HA.out.fw 0 rfl
   cases d2:nameT t ⟨#[105,109,112,111,114,116]⟩ with
   |true=>
    replace HT:=hpos HT (by exact d2)
    go_wp2_with fail
    refine HA.out.stepV HT HN (fun _ h e=>P.take hR.ok h.s e) ?_ ?_
    ·intro _ _ _ H;go_wp2_with fail;exact⟨rfl,Ans.badh H⟩
    clear zr zt yr HT HA
    intro _ q4 w4 HT HA
    obtain⟨zr,zt,-⟩:=HA.out.fs
    have yr:=HA.out.fw 0 rfl
    have cEmod:=HA.out.c_mod
    have lE:=HA.out.lt
    cases hm:E.m with
    |true=>
     rw [if_pos (by exact hm)] at HT
     go_wp2_with fail
     refine HA.out.stepV HT HN (fun _ h e=>P.is hR.ok ⟨#[46]⟩ h.s e) ?_ ?_
     ·intro _ _ _ H;go_wp2_with fail;exact⟨rfl,Ans.badh H⟩
     clear zr zt yr cEmod lE HT HA
     intro b q5 w5 HT HA
     obtain⟨zr,zt,-⟩:=HA.out.fs
     have yr:=HA.out.fw 0 rfl
     cases b with
     |true=>
      replace HT:=hpos HT (by rfl)
      go_wp2_with fail
      refine HA.out.stepV HT HN (fun _ h e=>P.must hR.ok ⟨#[109,101,116,97]⟩ h.s e) ?_ ?_
      ·intro _ _ _ H;go_wp2_with fail;exact⟨rfl,Ans.badh H⟩
      clear zr zt yr HT HA
      intro _ q6 w6 HT HA
      obtain⟨zr,zt,-⟩:=HA.out.fs
      have yr:=HA.out.fw 0 rfl
      replace HT:=ab4 HT
      go_wp2_with fail
      refine HA.out.node0 7 ⟨#[105,109,112,111,114,116,46,109,101,116,97]⟩ t.from' HT ?_
      clear zr zt yr HT HA
      intro z az cz w7 _ HT HA
      obtain⟨zr,zt,-⟩:=HA.out.fs
      have yr:=HA.out.fw 0 rfl
      go_wp2_with fail
      exact HA.out.fin_nd 0 0 rfl rfl rfl rfl rfl HT.out.symm
     |false=>
      replace HT:=hneg HT (by decide)
      cases calls with
      |true=>
       replace HT:=hneg HT (by decide)
       go_wp2_with fail
       refine HA.out.stepV HT HN (fun _ h e=>P.want hR.ok ⟨#[40]⟩ h.s e) ?_ ?_
       ·intro _ _ _ H;go_wp2_with fail;exact⟨rfl,Ans.badh H⟩
       clear zr zt yr HT HA
       intro _ q6 w6 HT HA
       obtain⟨zr,zt,-⟩:=HA.out.fs
       have yr:=HA.out.fw 0 rfl
       go_wp2_with fail
       refine HA.out.stepN HT HN (fun _ h e=>hR.h .innerAssign _ _ _ h.s e) ?_ ?_
       ·intro _ _ _ H;go_wp2_with fail;exact⟨rfl,Ans.badh H⟩
       clear zr zt yr HT HA
       intro x ax cx q7 w7 HT HA
       obtain⟨zr,zt,-⟩:=HA.out.fs
       have yr:=HA.out.fw 0 rfl
       go_wp2_with fail
       replace HA:=HA.out.pN (g:=w7.heap.size) rfl x ax cx
       refine HA.out.stepV HT HN (fun _ h e=>P.is hR.ok ⟨#[44]⟩ h.s e) ?_ ?_
       ·intro _ _ _ H;go_wp2_with fail;exact⟨rfl,Ans.badh H⟩
       clear zr zt yr HT HA
       intro _ q8 w8 HT HA
       obtain⟨zx,zr,zt,-⟩:=HA.out.fs
       have yr:=HA.out.fw 1 rfl
       go_wp2_with fail
       refine HA.out.stepV HT HN (fun _ h e=>P.want hR.ok ⟨#[41]⟩ h.s e) ?_ ?_
       ·intro _ _ _ H;go_wp2_with fail;exact⟨rfl,Ans.badh H⟩
       clear zx zr zt yr HT HA
       intro _ q9 w9 HT HA
       obtain⟨zx,zr,zt,-⟩:=HA.out.fs
       have yr:=HA.out.fw 1 rfl
       replace HT:=ab4 HT
       go_wp2_with fail
       refine HA.out.node 41 ⟨#[]⟩ t.from' [(x,ax,cx)] (by simp) rfl rfl rfl rfl HT ?_
       clear zx zr zt yr HT HA
       intro z az cz w10 _ HT HA
       obtain⟨zx,zr,zt,-⟩:=HA.out.fs
       have yr:=HA.out.fw 1 rfl
       go_wp2_with fail
       exact HA.out.fin_nd 1 0 rfl rfl rfl rfl rfl HT.out.symm
      |false=>
       replace HT:=hpos HT (by rfl)
       go_wp2_with fail
       refine HA.out.stepV HT HN (fun _ h e=>P.peek hR.ok 1 h.s e) ?_ ?_
       ·intro _ _ _ H;go_wp2_with fail;exact⟨rfl,Ans.badh H⟩
       clear zr zt yr HT HA
       intro _ q6 w6 HT HA
       obtain⟨zr,zt,-⟩:=HA.out.fs
       have yr:=HA.out.fw 0 rfl
       go_wp2_with fail
       have H:=HA.out.bad HT.out.symm
       refine HA.out.odd ?_
       go_wp2_with fail
       exact⟨rfl,Ans.badh H⟩
    |false=>
     rw [if_neg (by rw [hm];decide)] at HT
     replace HT:=aI4 HT
     replace HT:=hneg HT (by decide)
     cases calls with
     |true=>
      replace HT:=hneg HT (by decide)
      go_wp2_with fail
      refine HA.out.stepV HT HN (fun _ h e=>P.want hR.ok ⟨#[40]⟩ h.s e) ?_ ?_
      ·intro _ _ _ H;go_wp2_with fail;exact⟨rfl,Ans.badh H⟩
      clear zr zt yr cEmod lE HT HA
      intro _ q5 w5 HT HA
      obtain⟨zr,zt,-⟩:=HA.out.fs
      have yr:=HA.out.fw 0 rfl
      go_wp2_with fail
      refine HA.out.stepN HT HN (fun _ h e=>hR.h .innerAssign _ _ _ h.s e) ?_ ?_
      ·intro _ _ _ H;go_wp2_with fail;exact⟨rfl,Ans.badh H⟩
      clear zr zt yr HT HA
      intro x ax cx q6 w6 HT HA
      obtain⟨zr,zt,-⟩:=HA.out.fs
      have yr:=HA.out.fw 0 rfl
      go_wp2_with fail
      replace HA:=HA.out.pN (g:=w6.heap.size) rfl x ax cx
      refine HA.out.stepV HT HN (fun _ h e=>P.is hR.ok ⟨#[44]⟩ h.s e) ?_ ?_
      ·intro _ _ _ H;go_wp2_with fail;exact⟨rfl,Ans.badh H⟩
      clear zr zt yr HT HA
      intro _ q7 w7 HT HA
      obtain⟨zx,zr,zt,-⟩:=HA.out.fs
      have yr:=HA.out.fw 1 rfl
      go_wp2_with fail
      refine HA.out.stepV HT HN (fun _ h e=>P.want hR.ok ⟨#[41]⟩ h.s e) ?_ ?_
      ·intro _ _ _ H;go_wp2_with fail;exact⟨rfl,Ans.badh H⟩
      clear zx zr zt yr HT HA
      intro _ q8 w8 HT HA
      obtain⟨zx,zr,zt,-⟩:=HA.out.fs
      have yr:=HA.out.fw 1 rfl
      replace HT:=ab4 HT
      go_wp2_with fail
      refine HA.out.node 41 ⟨#[]⟩ t.from' [(x,ax,cx)] (by simp) rfl rfl rfl rfl HT ?_
      clear zx zr zt yr HT HA
      intro z az cz w9 _ HT HA
      obtain⟨zx,zr,zt,-⟩:=HA.out.fs
      have yr:=HA.out.fw 1 rfl
      go_wp2_with fail
      exact HA.out.fin_nd 1 0 rfl rfl rfl rfl rfl HT.out.symm
     |false=>
      replace HT:=hpos HT (by rfl)
      go_wp2_with fail
      refine HA.out.stepV HT HN (fun _ h e=>P.peek hR.ok 1 h.s e) ?_ ?_
      ·intro _ _ _ H;go_wp2_with fail;exact⟨rfl,Ans.badh H⟩
      clear zr zt yr cEmod lE HT HA
      intro _ q5 w5 HT HA
      obtain⟨zr,zt,-⟩:=HA.out.fs
      have yr:=HA.out.fw 0 rfl
      go_wp2_with fail
      have H:=HA.out.bad HT.out.symm
      refine HA.out.odd ?_
      go_wp2_with fail
      exact⟨rfl,Ans.badh H⟩
   |false=>
    replace HT:=hneg HT (by rw [d2];decide)
    replace HT:=ab4 HT
    go_wp2_with fail
    refine HA.out.stepN HT HN (fun _ h e=>hR.h (.primary t) _ _ _ h.s e) ?_ ?_
    ·intro _ _ _ H;go_wp2_with fail;exact⟨rfl,Ans.badh H⟩
    clear zr zt yr HT HA
    intro z az cz q4 w4 HT HA
    obtain⟨zr,zt,-⟩:=HA.out.fs
    have yr:=HA.out.fw 0 rfl
    go_wp2_with fail
    exact HA.out.fin_nd 0 0 rfl rfl rfl rfl rfl HT.out.symm
def NwR (E:PE) (R:(x:Fn)→PM x.Out) (F:Nat→Prop) (w:World) (T:Res Nd) (gpb gtb gnb:Nat) (t:Tk) (k:Nat) (u:Value) (wr:World):Prop:=
 ∃(n:Nd) (a:Option Addr) (c:Nat) (q:Ps) (b:Bool),u= .bool b∧Hid (newS.moreL R k n b q=T)∧Hid (Sa E F (fun j=>j=gnb) w wr q [(gpb,false,.p E.b),(gtb,false,.tk t),(gnb,true,.nd n a c)] [(n,a,c)] none)
theorem C.new1 {E:PE} {R:(x:Fn)→PM x.Out} (hR:Env E R) (f:Nat) (t:Tk) {pb tb nb:Nat} :
  CloS E (fun j=>j=nb) [(pb,false,.p E.b),(tb,false,.tk t),(nb,true,.nb)] (InB E nb) (do
  let n←R (.base t false)
  if n.kind=37∧n.kids.length<2 then outP else newS.moreL R f n (!ao2 n)) 293 #[.pointer (some ⟨pb,0,none⟩),.pointer (some ⟨tb,0,none⟩),.pointer (some ⟨nb,0,none⟩)]:=by
 intro F w p h hB hd hne
 obtain⟨T,hT⟩: ∃T,(do
   let n←R (.base t false)
   if n.kind=37∧n.kids.length<2 then outP else newS.moreL R f n (!ao2 n)) p=T:=⟨_,rfl⟩
 rw [hT] at hne⊢
 have HT:=hJ hT
 have HN:=hJ hne
 have HA:=Sa.start (X:=(fun j=>j=nb)) h [] _ (fun _ h=>by cases h) hB (by simp) hd
 clear h hne hT hB hd
 obtain⟨zpb,ztb,znb,-⟩:=HA.out.fs
 have ynb:=HA.out.fw 2 rfl
 go_enter Tryz.func293,Tryz.ntmps293
 go_wp2_with fail
 refine HA.out.stepN HT HN (fun _ h e=>hR.h (.base t false) _ _ _ h.s e) ?_ ?_
 ·intro _ _ _ H;go_wp2_with fail;exact⟨rfl,Ans.badh H⟩
 clear zpb ztb znb ynb HT HA
 intro n an cn q1 w1 HT HA
 obtain⟨zpb,ztb,znb,-⟩:=HA.out.fs
 have ynb:=HA.out.fw 2 rfl
 go_upto_region 1 with fail
 replace HA:=HA.out.setN 2 0 rfl rfl rfl
 clear zpb ztb znb ynb
 obtain⟨w2,e8,HA⟩:=HA
 rw [e8]
 clear e8
 dsimp only [ad3] at HA
 obtain⟨zpb,ztb,znb,-⟩:=HA.out.fs
 have ynb:=HA.out.fw 2 rfl
 by_cases hk37:n.kind=37
 ·have hk37w:=nf hk37
  by_cases h2:n.kids.length<2
  ·replace HT:=hpos HT (by exact⟨hk37,h2⟩)
   exact absurd HT.out.symm HN.out
  ·replace HT:=hneg HT (by exact fun h=>h2 h.2)
   obtain⟨F9,h⟩:=HA.out
   obtain⟨g0,off0,ha0,hg0,hc0⟩:=Pc.kid1 (h.ni 0 rfl) h2
   clear h F9
   have h2i:(1:Int)<(n.kids.length:Int):=by omega
   have H2:=hJ h2
   clear h2
   obtain⟨kk,hkk⟩: ∃kk,((n.kids.drop 1).headD .zero).kind=kk:=⟨_,rfl⟩
   rw [hkk] at hc0
   have HKK:=hJ hkk
   clear hkk
   have hk37':=hJ hk37
   clear hk37
   by_cases hk0:kk=0
   ·have hk0w:=nf hk0
    have hbn:ao2 n=true:=by unfold ao2;rw [decide_eq_true hk37'.out,HKK.out,hk0];rfl
    rw [hbn,Bool.not_true] at HT
    clear hbn
    have hk0':=hJ hk0
    clear hk0
    go_wp2_with fail
    clear ha0
    go_loopg [3] f (fun k u wr=>NwR E R F w T (pb) (tb) (nb) t k u wr)
    case atStart=>exact⟨n,an,cn,_,false,rfl,HT,HA.out.pick [0,1,2] [0] (by decide)⟩
    case round=>
     clear zpb ztb znb ynb HT HA
     obtain⟨n,an,cn,q,b,rfl,HT,HA⟩:=hrel
     cases gk with
     |zero=>exact absurd HT.out.symm HN.out
     |succ k=>
      unfold newS.moreL at HT
      obtain⟨zpb,ztb,znb,-⟩:=HA.out.fs
      have ynb:=HA.out.fw 2 rfl
      cases b with
      |true=>
       replace HT:=hpos HT (by rfl)
       go_wp2_with fail
       refine HA.out.stepL HT HN (fun _ h e=>hR.h (.link n false true) _ _ _ _ (h.ni 0 rfl) h.s e) ?_ ?_
       ·intro _ _ _ H;go_wp2_with fail;exact⟨rfl,Ans.badh H⟩
       clear zpb ztb znb ynb HT HA
       intro m b2 am cm q3 w3 HT HA
       dsimp only at HT
       obtain⟨zpb,ztb,znb,-⟩:=HA.out.fs
       have ynb:=HA.out.fw 2 rfl
       go_wp2_with fail
       replace HA:=HA.out.setN 2 0 rfl rfl rfl
       clear zpb ztb znb ynb
       obtain⟨w4,e8,HA⟩:=HA
       rw [e8]
       clear e8
       dsimp only [ad3] at HA
       obtain⟨zpb,ztb,znb,-⟩:=HA.out.fs
       have ynb:=HA.out.fw 2 rfl
       go_roundg k
       case measure=>exact Nat.lt_succ_self k
       case rel=>exact⟨m,am,cm,_,b2,rfl,HT,HA.out.pick [0,1,2] [0] (by decide)⟩
      |false=>
       replace HT:=hneg HT (by decide)
       go_wp2_with fail
       exact HA.out.fin_cl0 2 0 rfl rfl rfl HT.out.symm
   ·have hk0w:=nt hk0
    have hbn:ao2 n=false:=by unfold ao2;rw [HKK.out,decide_eq_false hk0,Bool.and_false]
    rw [hbn,Bool.not_false] at HT
    clear hbn
    have hk0':=hJ hk0
    clear hk0
    go_wp2_with fail
    clear ha0
    go_loopg [3] f (fun k u wr=>NwR E R F w T (pb) (tb) (nb) t k u wr)
    case atStart=>exact⟨n,an,cn,_,true,rfl,HT,HA.out.pick [0,1,2] [0] (by decide)⟩
    case round=>
     clear zpb ztb znb ynb HT HA
     obtain⟨n,an,cn,q,b,rfl,HT,HA⟩:=hrel
     cases gk with
     |zero=>exact absurd HT.out.symm HN.out
     |succ k=>
      unfold newS.moreL at HT
      obtain⟨zpb,ztb,znb,-⟩:=HA.out.fs
      have ynb:=HA.out.fw 2 rfl
      cases b with
      |true=>
       replace HT:=hpos HT (by rfl)
       go_wp2_with fail
       refine HA.out.stepL HT HN (fun _ h e=>hR.h (.link n false true) _ _ _ _ (h.ni 0 rfl) h.s e) ?_ ?_
       ·intro _ _ _ H;go_wp2_with fail;exact⟨rfl,Ans.badh H⟩
       clear zpb ztb znb ynb HT HA
       intro m b2 am cm q3 w3 HT HA
       dsimp only at HT
       obtain⟨zpb,ztb,znb,-⟩:=HA.out.fs
       have ynb:=HA.out.fw 2 rfl
       go_wp2_with fail
       replace HA:=HA.out.setN 2 0 rfl rfl rfl
       clear zpb ztb znb ynb
       obtain⟨w4,e8,HA⟩:=HA
       rw [e8]
       clear e8
       dsimp only [ad3] at HA
       obtain⟨zpb,ztb,znb,-⟩:=HA.out.fs
       have ynb:=HA.out.fw 2 rfl
       go_roundg k
       case measure=>exact Nat.lt_succ_self k
       case rel=>exact⟨m,am,cm,_,b2,rfl,HT,HA.out.pick [0,1,2] [0] (by decide)⟩
      |false=>
       replace HT:=hneg HT (by decide)
       go_wp2_with fail
       exact HA.out.fin_cl0 2 0 rfl rfl rfl HT.out.symm
 ·have hk37w:=nt hk37
  replace HT:=hneg HT (by exact fun h=>hk37 h.1)
  have hbn:ao2 n=false:=by unfold ao2;rw [decide_eq_false hk37,Bool.false_and]
  rw [hbn,Bool.not_false] at HT
  clear hbn
  have hk37':=hJ hk37
  clear hk37
  go_wp2_with fail
  go_loopg [3] f (fun k u wr=>NwR E R F w T (pb) (tb) (nb) t k u wr)
  case atStart=>exact⟨n,an,cn,_,true,rfl,HT,HA.out.pick [0,1,2] [0] (by decide)⟩
  case round=>
   clear zpb ztb znb ynb HT HA
   obtain⟨n,an,cn,q,b,rfl,HT,HA⟩:=hrel
   cases gk with
   |zero=>exact absurd HT.out.symm HN.out
   |succ k=>
    unfold newS.moreL at HT
    obtain⟨zpb,ztb,znb,-⟩:=HA.out.fs
    have ynb:=HA.out.fw 2 rfl
    cases b with
    |true=>
     replace HT:=hpos HT (by rfl)
     go_wp2_with fail
     refine HA.out.stepL HT HN (fun _ h e=>hR.h (.link n false true) _ _ _ _ (h.ni 0 rfl) h.s e) ?_ ?_
     ·intro _ _ _ H;go_wp2_with fail;exact⟨rfl,Ans.badh H⟩
     clear zpb ztb znb ynb HT HA
     intro m b2 am cm q3 w3 HT HA
     dsimp only at HT
     obtain⟨zpb,ztb,znb,-⟩:=HA.out.fs
     have ynb:=HA.out.fw 2 rfl
     go_wp2_with fail
     replace HA:=HA.out.setN 2 0 rfl rfl rfl
     clear zpb ztb znb ynb
     obtain⟨w4,e8,HA⟩:=HA
     rw [e8]
     clear e8
     dsimp only [ad3] at HA
     obtain⟨zpb,ztb,znb,-⟩:=HA.out.fs
     have ynb:=HA.out.fw 2 rfl
     go_roundg k
     case measure=>exact Nat.lt_succ_self k
     case rel=>exact⟨m,am,cm,_,b2,rfl,HT,HA.out.pick [0,1,2] [0] (by decide)⟩
    |false=>
     replace HT:=hneg HT (by decide)
     go_wp2_with fail
     exact HA.out.fin_cl0 2 0 rfl rfl rfl HT.out.symm
theorem S.new {E:PE} {R:(x:Fn)→PM x.Out} (hR:Env E R) {F:Nat→Prop} {w:World} {p:Ps} (f:Nat) (from':Int) (h:St E F w p) (hne:newS E.s f R from' p≠ .out):
  Calls Tryz.prog 271 #[.pointer (some ⟨E.b,0,none⟩),.int .i64 from'] w (Ans E F X0 w (newS E.s f R from' p) fun n v w'=>IsP E F w' n v):=by
 obtain⟨T,hT⟩: ∃T,newS E.s f R from' p=T:=⟨_,rfl⟩
 rw [hT] at hne⊢
 unfold newS at hT
 have HT:=hJ hT
 have HN:=hJ hne
 have HA:=Sa.start0 (X:=X0) h
 clear h hne hT
 go_enter Tryz.func271,Tryz.ntmps271
 go_wp2_with fail
 replace HA:=HA.out.pP (g:=w.heap.size) rfl
 replace HA:=HA.out.pZ (g:=(w.heap.size+1)) (by simp)
 refine HA.out.stepV HT HN (fun _ h e=>P.is hR.ok ⟨#[46]⟩ h.s e) ?_ ?_
 ·intro _ _ _ H;go_wp2_with fail;exact⟨rfl,Ans.badh H⟩
 clear HT HA
 intro b q1 w1 HT HA
 obtain⟨zr,zpb,-⟩:=HA.out.fs
 have yr:=HA.out.fw 0 rfl
 cases b with
 |true=>
  replace HT:=hpos HT (by rfl)
  go_wp2_with fail
  refine HA.out.stepV HT HN (fun _ h e=>P.must hR.ok ⟨#[116,97,114,103,101,116]⟩ h.s e) ?_ ?_
  ·intro _ _ _ H;go_wp2_with fail;exact⟨rfl,Ans.badh H⟩
  clear zr zpb yr HT HA
  intro _ q2 w2 HT HA
  obtain⟨zr,zpb,-⟩:=HA.out.fs
  have yr:=HA.out.fw 0 rfl
  replace HT:=ab4 HT
  go_wp2_with fail
  refine HA.out.node0 7 ⟨#[110,101,119,46,116,97,114,103,101,116]⟩ from' HT ?_
  clear zr zpb yr HT HA
  intro z az cz w3 _ HT HA
  obtain⟨zr,zpb,-⟩:=HA.out.fs
  have yr:=HA.out.fw 0 rfl
  go_wp2_with fail
  exact HA.out.fin_nd 0 0 rfl rfl rfl rfl rfl HT.out.symm
 |false=>
  replace HT:=hneg HT (by decide)
  go_wp2_with fail
  refine HA.out.stepV HT HN (fun _ h e=>P.peek hR.ok 2 h.s e) ?_ ?_
  ·intro _ _ _ H;go_wp2_with fail;exact⟨rfl,Ans.badh H⟩
  clear zr zpb yr HT HA
  intro t q2 w2 HT HA
  obtain⟨zr,zpb,-⟩:=HA.out.fs
  have yr:=HA.out.fw 0 rfl
  go_wp2_with fail
  replace HA:=HA.out.pT (g:=w2.heap.size) rfl t
  refine HA.out.deeper hR.ok t.from' HT HN (fun _=>by kernel_rfl) (C.new1 hR f t) (.tail _ (.tail _ (.head _))) [2,0,1] ⟨⟨_,_,rfl,.inl rfl⟩,⟨_,_,rfl,.inl rfl⟩,⟨_,_,rfl,.inr ⟨rfl,_,_,_,_,_,_,_,rfl⟩⟩,trivial⟩ (by decide) 1 rfl ?_ ?_
  ·intro _ _ _ H;go_wp2_with fail;exact⟨rfl,Ans.badh H⟩
  clear zr zpb yr HT HA
  intro n an cn q3 w3 HT HA
  dsimp only [ad3] at HA
  obtain⟨zt,zr,zpb,-⟩:=HA.out.fs
  have yr:=HA.out.fw 1 rfl
  go_wp2_with fail
  replace HA:=HA.out.pZ (g:=w3.heap.size) rfl
  refine HA.out.stepV HT HN (fun _ h e=>P.peek hR.ok 1 h.s e) ?_ ?_
  ·intro _ _ _ H;go_wp2_with fail;exact⟨rfl,Ans.badh H⟩
  clear zt zr zpb yr HT HA
  intro next q4 w4 HT HA
  obtain⟨zab,zt,zr,zpb,-⟩:=HA.out.fs
  have yab:=HA.out.fw 0 rfl
  have yr:=HA.out.fw 2 rfl
  go_wp2_with fail
  replace HA:=HA.out.pT (g:=w4.heap.size) rfl next
  refine HA.out.stepQ (fun _ h=>P.punct next ⟨#[40]⟩ _) ?_
  clear zab zt zr zpb yab yr HA
  intro w5 HA
  obtain⟨znext,zab,zt,zr,zpb,-⟩:=HA.out.fs
  have yab:=HA.out.fw 1 rfl
  have yr:=HA.out.fw 3 rfl
  cases hc:punctT next ⟨#[40]⟩ with
  |true=>
   replace HT:=hpos HT (by exact hc)
   go_wp2_with fail
   refine HA.out.stepN HT HN (fun _ h e=>hR.h .args _ _ _ h.s e) ?_ ?_
   ·intro _ _ _ H;go_wp2_with fail;exact⟨rfl,Ans.badh H⟩
   clear znext zab zt zr zpb yab yr HT HA
   intro y ay cy q6 w6 HT HA
   obtain⟨znext,zab,zt,zr,zpb,-⟩:=HA.out.fs
   have yab:=HA.out.fw 1 rfl
   have yr:=HA.out.fw 3 rfl
   go_upto_region 10 with fail
   replace HA:=HA.out.setN 1 0 rfl rfl rfl
   clear znext zab zt zr zpb yab yr
   obtain⟨w7,e8,HA⟩:=HA
   rw [e8]
   clear e8
   dsimp only [ad3] at HA
   obtain⟨znext,zab,zt,zr,zpb,-⟩:=HA.out.fs
   have yab:=HA.out.fw 1 rfl
   have yr:=HA.out.fw 3 rfl
   replace HT:=ab4 HT
   go_wp2_with fail
   refine HA.out.node 37 ⟨#[]⟩ from' [(n,an,cn),(y,ay,cy)] (by simp) rfl rfl rfl rfl HT ?_
   clear znext zab zt zr zpb yab yr HT HA
   intro z az cz w8 _ HT HA
   obtain⟨znext,zab,zt,zr,zpb,-⟩:=HA.out.fs
   have yab:=HA.out.fw 1 rfl
   have yr:=HA.out.fw 3 rfl
   go_wp2_with fail
   exact HA.out.fin_nd 3 0 rfl rfl rfl rfl rfl HT.out.symm
  |false=>
   replace HT:=hneg HT (by rw [hc];decide)
   go_wp2_with fail
   replace HT:=ab4 HT
   refine HA.out.node 37 ⟨#[]⟩ from' [(n,an,cn),(Nd.zero,none,0)] (by simp) rfl rfl rfl rfl HT ?_
   clear znext zab zt zr zpb yab yr HT HA
   intro z az cz w6 _ HT HA
   obtain⟨znext,zab,zt,zr,zpb,-⟩:=HA.out.fs
   have yab:=HA.out.fw 1 rfl
   have yr:=HA.out.fw 3 rfl
   go_wp2_with fail
   exact HA.out.fin_nd 3 0 rfl rfl rfl rfl rfl HT.out.symm
end
end Go.Proofs.YtibpjkkgfgmkmaaGreatDoor
