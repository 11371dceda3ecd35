/- Steps (Q0 Q3). Conditions: as stated. -/
import Derived.Test.YtnahajcjpmbflaaGreatDoorPn26
import Derived.Test.YtnahajcjpmbflaaGreatDoorPn15
import Derived.Test.YtnahajcjpmbflaaGreatDoorPn22
set_option maxHeartbeats 4000000
set_option maxRecDepth 100000
namespace Go.Proofs.YtnahajcjpmbflaaGreatDoor
section
open Go.RowKit
attribute [local go_sem] fld_tk0 fld_tk1 fld_tk2 fld_tk3 fld_tk4 mk_func
attribute [local go_sem ↓] Go.wp_at_zero Go.wp_at_succ
theorem P.name_nl (t:Tk) (x:ByteArray) (hl:t.line=false) (W:World):Calls Tryz.prog 46 #[.agg #[.int .i64 t.kind,.string t.text,.int .i64 t.from',.int .i64 t.till,.bool false],.string x] W fun e w'=>e= .returned (.bool (nameT t x))∧Below W.heap.size W w':=by
 have h:=P.name t x W
 rw [hl] at h
 exact h
theorem S.yield {E:PE} {R:(x:Fn)→PM x.Out} (hR:Env E R) {F:Nat→Prop} {w:World} {p:Ps} (h:St E F w p) (hne:yieldS E.s R p≠ .out):
  Calls Tryz.prog 47 #[.pointer (some ⟨E.b,0,none⟩)] w (Ans E F X0 w (yieldS E.s R p) fun n v w'=>IsP E F w' n v):=by
 obtain⟨T,hT⟩: ∃T,yieldS E.s R p=T:=⟨_,rfl⟩
 rw [hT] at hne⊢
 unfold yieldS at hT
 have HT:=Lib.hid hT
 have HN:=Lib.hid hne
 have HA:=Sa.start0 (X:=X0) h
 clear h hne hT
 go_enter Tryz.func47,Tryz.ntmps47
 go_wp2_with fail
 replace HA:=HA.out.pZ (g:=w.heap.size) rfl
 refine HA.out.stepV HT HN (fun _ h e=>P.take hR.ok h.s e) ?_ ?_
 ·intro _ _ _ H;go_wp2_with fail;exact⟨rfl,Ans.badh H⟩
 clear HT HA
 intro y q1 w1 HT HA
 obtain⟨zr,-⟩:=HA.out.fs
 have yr:=HA.out.fw 0 rfl
 go_wp2_with fail
 refine HA.out.stepV HT HN (fun _ h e=>P.peek hR.ok 2 h.s e) ?_ ?_
 ·intro _ _ _ H;go_wp2_with fail;exact⟨rfl,Ans.badh H⟩
 clear zr yr HT HA
 intro t q2 w2 HT HA
 obtain⟨zr,-⟩:=HA.out.fs
 have yr:=HA.out.fw 0 rfl
 go_upto_region 3 with fail
 replace HA:=HA.out.pT (g:=w2.heap.size) rfl t
 clear zr yr
 generalize (w2.alloc (.cells #[.int .i64 t.kind,.string t.text,.int .i64 t.from',.int .i64 t.till,.bool t.line] 54))=w3 at*
 obtain⟨zt,zr,-⟩:=HA.out.fs
 have yr:=HA.out.fw 1 rfl
 cases hl:t.line with
 |true=>
  rw [if_pos (by show(t.line||decide (t.kind=0)||(decide (t.kind=5) && oneOf t.text yieW)||nameT t ⟨#[105,110]⟩)=true;rw [hl];rfl)] at HT
  go_wp2_with fail
  refine HA.out.node 33 ⟨#[]⟩ y.from' [(Nd.zero,none,0)] (by simp) rfl rfl rfl rfl HT ?_
  clear zt zr yr HT HA
  intro k ak ck w4 _ HT HA
  obtain⟨zt,zr,-⟩:=HA.out.fs
  have yr:=HA.out.fw 1 rfl
  go_wp2_with fail
  exact HA.out.fin_nd 1 0 rfl rfl rfl rfl rfl HT.out.symm
 |false=>
  by_cases hk0:t.kind=0
  ·have hk0w:=kt hk0
   rw [if_pos (by show(t.line||decide (t.kind=0)||(decide (t.kind=5) && oneOf t.text yieW)||nameT t ⟨#[105,110]⟩)=true;rw [hk0];simp)] at HT
   go_wp2_with fail
   refine HA.out.node 33 ⟨#[]⟩ y.from' [(Nd.zero,none,0)] (by simp) rfl rfl rfl rfl HT ?_
   clear zt zr yr HT HA
   intro k ak ck w4 _ HT HA
   obtain⟨zt,zr,-⟩:=HA.out.fs
   have yr:=HA.out.fw 1 rfl
   go_wp2_with fail
   exact HA.out.fin_nd 1 0 rfl rfl rfl rfl rfl HT.out.symm
  ·have hk0w:=kf hk0
   by_cases hk5:t.kind=5
   ·have hk5w:=kt hk5
    have hk0':=Lib.hid hk0
    clear hk0
    have hk5':=Lib.hid hk5
    clear hk5
    go_wp2_with fail
    replace HA:=HA.out.drew
    obtain⟨F9,h9⟩:=HA.out
    have HX9:=Lib.hid (hR.ok.lx.bel h9.s.bel)
    clear h9 F9
    have HF:=Lib.hid (yie_fields _ HX9.out)
    have HC:=Lib.hid (contains_lit t.text yieW (w3.drew) (g:=w3.drew.heap.size) (m:=6) rfl (by decide) (by decide))
    go_region_with (first|(go_at_call 79;refine HF.out.mono ?_;rintro e w8 ⟨rfl,rfl⟩)|(go_at_call 64;refine HC.out.mono ?_;rintro e w8 ⟨rfl,rfl⟩))
    all_goals
     clear HX9 HF HC
     cases ho:oneOf t.text yieW with
     |true=>
      rw [if_pos (by show(t.line||decide (t.kind=0)||(decide (t.kind=5) && oneOf t.text yieW)||nameT t ⟨#[105,110]⟩)=true;rw [hl,decide_eq_true hk5'.out,ho];simp)] at HT
      go_wp2_with fail
      replace HA:=HA.out.alloc (wordsO yieW)
      refine HA.out.node 33 ⟨#[]⟩ y.from' [(Nd.zero,none,0)] (by simp) rfl (by simp) rfl rfl HT ?_
      clear zt zr yr HT HA
      intro k ak ck w4 _ HT HA
      obtain⟨zt,zr,-⟩:=HA.out.fs
      have yr:=HA.out.fw 1 rfl
      go_wp2_with fail
      exact HA.out.fin_nd 1 0 rfl rfl rfl rfl rfl HT.out.symm
     |false=>
      go_wp2_with fail
      replace HA:=HA.out.alloc (wordsO yieW)
      refine HA.out.stepQ (fun _ h=>P.name_nl t ⟨#[105,110]⟩ hl _) ?_
      clear zt zr yr HA
      intro w4 HA
      obtain⟨zt,zr,-⟩:=HA.out.fs
      have yr:=HA.out.fw 1 rfl
      cases hn:nameT t ⟨#[105,110]⟩ with
      |true=>
       rw [if_pos (by show(t.line||decide (t.kind=0)||(decide (t.kind=5) && oneOf t.text yieW)||nameT t ⟨#[105,110]⟩)=true;rw [hl,hn,decide_eq_true hk5'.out,decide_eq_false hk0'.out,ho];simp)] at HT
       go_wp2_with fail
       refine HA.out.node 33 ⟨#[]⟩ y.from' [(Nd.zero,none,0)] (by simp) rfl rfl rfl rfl HT ?_
       clear zt zr yr HT HA
       intro k ak ck w5 _ HT HA
       obtain⟨zt,zr,-⟩:=HA.out.fs
       have yr:=HA.out.fw 1 rfl
       go_wp2_with fail
       exact HA.out.fin_nd 1 0 rfl rfl rfl rfl rfl HT.out.symm
      |false=>
       rw [if_neg (by show¬((t.line||decide (t.kind=0)||(decide (t.kind=5) && oneOf t.text yieW)||nameT t ⟨#[105,110]⟩)=true);rw [hl,hn,decide_eq_true hk5'.out,decide_eq_false hk0'.out,ho];simp)] at HT
       go_wp2_with fail
       refine HA.out.stepQ (fun _ h=>P.punct_nl t ⟨#[42]⟩ hl _) ?_
       clear zt zr yr HA
       intro w5 HA
       obtain⟨zt,zr,-⟩:=HA.out.fs
       have yr:=HA.out.fw 1 rfl
       cases hs:punctT t ⟨#[42]⟩ with
       |true=>
        rw [if_pos (by exact hs)] at HT
        go_wp2_with fail
        refine HA.out.stepV HT HN (fun _ h e=>P.take hR.ok h.s e) ?_ ?_
        ·intro _ _ _ H;go_wp2_with fail;exact⟨rfl,Ans.badh H⟩
        clear zt zr yr HT HA
        intro _ q6 w6 HT HA
        obtain⟨zt,zr,-⟩:=HA.out.fs
        have yr:=HA.out.fw 1 rfl
        go_wp2_with fail
        refine HA.out.stepN HT HN (fun _ h e=>hR.h .assign _ _ _ h.s e) ?_ ?_
        ·intro _ _ _ H;go_wp2_with fail;exact⟨rfl,Ans.badh H⟩
        clear zt zr yr HT HA
        intro x ax cx q7 w7 HT HA
        obtain⟨zt,zr,-⟩:=HA.out.fs
        have yr:=HA.out.fw 1 rfl
        go_wp2_with fail
        replace HA:=HA.out.pN (g:=w7.heap.size) rfl x ax cx
        refine HA.out.node 33 ⟨#[42]⟩ y.from' [(x,ax,cx)] (by simp) rfl (by simp) rfl rfl HT ?_
        clear zt zr yr HT HA
        intro k ak ck w8 _ HT HA
        obtain⟨zx,zt,zr,-⟩:=HA.out.fs
        have yr:=HA.out.fw 2 rfl
        go_wp2_with fail
        exact HA.out.fin_nd 2 0 rfl rfl rfl rfl rfl HT.out.symm
       |false=>
        rw [if_neg (by rw [hs];decide)] at HT
        go_wp2_with fail
        refine HA.out.stepN HT HN (fun _ h e=>hR.h .assign _ _ _ h.s e) ?_ ?_
        ·intro _ _ _ H;go_wp2_with fail;exact⟨rfl,Ans.badh H⟩
        clear zt zr yr HT HA
        intro x ax cx q6 w6 HT HA
        obtain⟨zt,zr,-⟩:=HA.out.fs
        have yr:=HA.out.fw 1 rfl
        go_wp2_with fail
        replace HA:=HA.out.pN (g:=w6.heap.size) rfl x ax cx
        refine HA.out.node 33 ⟨#[]⟩ y.from' [(x,ax,cx)] (by simp) rfl (by simp) rfl rfl HT ?_
        clear zt zr yr HT HA
        intro k ak ck w7 _ HT HA
        obtain⟨zx,zt,zr,-⟩:=HA.out.fs
        have yr:=HA.out.fw 2 rfl
        go_wp2_with fail
        exact HA.out.fin_nd 2 0 rfl rfl rfl rfl rfl HT.out.symm
   ·have hk5w:=kf hk5
    go_wp2_with fail
    go_quiet (fail)
    clear zt zr yr
    generalize hwq:World.drewN w3 _=w4
    replace HA:=HA.out.drewE hwq
    clear hwq
    obtain⟨zt,zr,-⟩:=HA.out.fs
    have yr:=HA.out.fw 1 rfl
    have hk0':=Lib.hid hk0
    clear hk0
    have hk5':=Lib.hid hk5
    clear hk5
    go_wp2_with fail
    refine HA.out.stepQ (fun _ h=>P.name_nl t ⟨#[105,110]⟩ hl _) ?_
    clear zt zr yr HA
    intro w5 HA
    obtain⟨zt,zr,-⟩:=HA.out.fs
    have yr:=HA.out.fw 1 rfl
    cases hn:nameT t ⟨#[105,110]⟩ with
    |true=>
     rw [if_pos (by show(t.line||decide (t.kind=0)||(decide (t.kind=5) && oneOf t.text yieW)||nameT t ⟨#[105,110]⟩)=true;rw [hl,hn,decide_eq_false hk5'.out,decide_eq_false hk0'.out];simp)] at HT
     go_wp2_with fail
     refine HA.out.node 33 ⟨#[]⟩ y.from' [(Nd.zero,none,0)] (by simp) rfl rfl rfl rfl HT ?_
     clear zt zr yr HT HA
     intro k ak ck w6 _ HT HA
     obtain⟨zt,zr,-⟩:=HA.out.fs
     have yr:=HA.out.fw 1 rfl
     go_wp2_with fail
     exact HA.out.fin_nd 1 0 rfl rfl rfl rfl rfl HT.out.symm
    |false=>
     rw [if_neg (by show¬((t.line||decide (t.kind=0)||(decide (t.kind=5) && oneOf t.text yieW)||nameT t ⟨#[105,110]⟩)=true);rw [hl,hn,decide_eq_false hk5'.out,decide_eq_false hk0'.out];simp)] at HT
     go_wp2_with fail
     refine HA.out.stepQ (fun _ h=>P.punct_nl t ⟨#[42]⟩ hl _) ?_
     clear zt zr yr HA
     intro w6 HA
     obtain⟨zt,zr,-⟩:=HA.out.fs
     have yr:=HA.out.fw 1 rfl
     cases hs:punctT t ⟨#[42]⟩ with
     |true=>
      rw [if_pos (by exact hs)] at HT
      go_wp2_with fail
      refine HA.out.stepV HT HN (fun _ h e=>P.take hR.ok h.s e) ?_ ?_
      ·intro _ _ _ H;go_wp2_with fail;exact⟨rfl,Ans.badh H⟩
      clear zt zr yr HT HA
      intro _ q7 w7 HT HA
      obtain⟨zt,zr,-⟩:=HA.out.fs
      have yr:=HA.out.fw 1 rfl
      go_wp2_with fail
      refine HA.out.stepN HT HN (fun _ h e=>hR.h .assign _ _ _ h.s e) ?_ ?_
      ·intro _ _ _ H;go_wp2_with fail;exact⟨rfl,Ans.badh H⟩
      clear zt zr yr HT HA
      intro x ax cx q8 w8 HT HA
      obtain⟨zt,zr,-⟩:=HA.out.fs
      have yr:=HA.out.fw 1 rfl
      go_wp2_with fail
      replace HA:=HA.out.pN (g:=w8.heap.size) rfl x ax cx
      refine HA.out.node 33 ⟨#[42]⟩ y.from' [(x,ax,cx)] (by simp) rfl (by simp) rfl rfl HT ?_
      clear zt zr yr HT HA
      intro k ak ck w9 _ HT HA
      obtain⟨zx,zt,zr,-⟩:=HA.out.fs
      have yr:=HA.out.fw 2 rfl
      go_wp2_with fail
      exact HA.out.fin_nd 2 0 rfl rfl rfl rfl rfl HT.out.symm
     |false=>
      rw [if_neg (by rw [hs];decide)] at HT
      go_wp2_with fail
      refine HA.out.stepN HT HN (fun _ h e=>hR.h .assign _ _ _ h.s e) ?_ ?_
      ·intro _ _ _ H;go_wp2_with fail;exact⟨rfl,Ans.badh H⟩
      clear zt zr yr HT HA
      intro x ax cx q7 w7 HT HA
      obtain⟨zt,zr,-⟩:=HA.out.fs
      have yr:=HA.out.fw 1 rfl
      go_wp2_with fail
      replace HA:=HA.out.pN (g:=w7.heap.size) rfl x ax cx
      refine HA.out.node 33 ⟨#[]⟩ y.from' [(x,ax,cx)] (by simp) rfl (by simp) rfl rfl HT ?_
      clear zt zr yr HT HA
      intro k ak ck w8 _ HT HA
      obtain⟨zx,zt,zr,-⟩:=HA.out.fs
      have yr:=HA.out.fw 2 rfl
      go_wp2_with fail
      exact HA.out.fin_nd 2 0 rfl rfl rfl rfl rfl HT.out.symm
end
section
open Go.RowKit
attribute [local go_sem] fld_tk0 fld_tk1 fld_tk2 fld_tk3 fld_tk4 mk_func
attribute [local go_sem ↓] Go.wp_at_zero Go.wp_at_succ
theorem pk1 {t:Tk} (h:t.kind=1) (x:ByteArray):punctT t x=false:=by
 unfold punctT
 rw [h]
 rfl
theorem S.stFunction {E:PE} {R:(x:Fn)→PM x.Out} (hR:Env E R) {F:Nat→Prop} {w:World} {p:Ps} (t:Tk) (hk:t.kind=1) (ht:t.text=⟨#[102,117,110,99,116,105,111,110]⟩) (h:St E F w p) (hne:R (.declaration true) p≠ .out):
  Calls Tryz.prog 44 #[.pointer (some ⟨E.b,0,none⟩),.agg #[.int .i64 t.kind,.string t.text,.int .i64 t.from',.int .i64 t.till,.bool t.line],.bool true] w (Ans E F X0 w (R (.declaration true) p) fun n v w'=>IsP E F w' n v):=by
 obtain⟨T,hT⟩: ∃T,R (.declaration true) p=T:=⟨_,rfl⟩
 rw [hT] at hne⊢
 have d0:punctT t ⟨#[123]⟩=false:=pk1 hk _
 have d1:punctT t ⟨#[59]⟩=false:=pk1 hk _
 have hk1w:(t.kind !=1)=false:=nf hk
 have hw0:(t.text.toList== [97,115,121,110,99])=false:=by rw [bt,ht];decide
 have hw1:(t.text.toList== [118,97,114])=false:=by rw [bt,ht];decide
 have hw2:(t.text.toList== [108,101,116])=false:=by rw [bt,ht];decide
 have hw3:(t.text.toList== [99,111,110,115,116])=false:=by rw [bt,ht];decide
 have hw4:(t.text.toList== [102,117,110,99,116,105,111,110])=true:=by rw [bt,ht];decide
 have hw5:(t.text.toList== [99,108,97,115,115])=false:=by rw [bt,ht];decide
 have hw6:(t.text.toList== [105,102])=false:=by rw [bt,ht];decide
 have hw7:(t.text.toList== [102,111,114])=false:=by rw [bt,ht];decide
 have hw8:(t.text.toList== [119,104,105,108,101])=false:=by rw [bt,ht];decide
 have hw9:(t.text.toList== [100,111])=false:=by rw [bt,ht];decide
 have hw10:(t.text.toList== [114,101,116,117,114,110])=false:=by rw [bt,ht];decide
 have hw11:(t.text.toList== [98,114,101,97,107])=false:=by rw [bt,ht];decide
 have hw12:(t.text.toList== [99,111,110,116,105,110,117,101])=false:=by rw [bt,ht];decide
 have hw13:(t.text.toList== [116,104,114,111,119])=false:=by rw [bt,ht];decide
 have hw14:(t.text.toList== [116,114,121])=false:=by rw [bt,ht];decide
 have hw15:(t.text.toList== [115,119,105,116,99,104])=false:=by rw [bt,ht];decide
 have hw16:(t.text.toList== [100,101,98,117,103,103,101,114])=false:=by rw [bt,ht];decide
 clear hk ht
 have HT:=Lib.hid hT
 have HN:=Lib.hid hne
 have HA:=Sa.start0 (X:=X0) h
 clear h hne hT
 go_enter Tryz.func44,Tryz.ntmps44
 go_wp2_with fail
 replace HA:=HA.out.pT (g:=w.heap.size) rfl t
 replace HA:=HA.out.pZ (g:=(w.heap.size+1)) (by simp)
 refine HA.out.stepQ (fun _ h=>P.punct t ⟨#[123]⟩ _) ?_
 clear HA
 intro w1 HA
 obtain⟨zr,zt,-⟩:=HA.out.fs
 have yr:=HA.out.fw 0 rfl
 go_wp2_with fail
 refine HA.out.stepQ (fun _ h=>P.punct t ⟨#[59]⟩ _) ?_
 clear zr zt yr HA
 intro w2 HA
 obtain⟨zr,zt,-⟩:=HA.out.fs
 have yr:=HA.out.fw 0 rfl
 go_wp2_with fail
 replace HT:=htail HT
 refine HA.out.stepN HT HN (fun _ h e=>hR.h (.declaration true) _ _ _ h.s e) ?_ ?_
 ·intro _ _ _ H;go_wp2_with fail;exact⟨rfl,Ans.badh H⟩
 clear zr zt yr HT HA
 intro z az cz q3 w3 HT HA
 obtain⟨zr,zt,-⟩:=HA.out.fs
 have yr:=HA.out.fw 0 rfl
 go_wp2_with fail
 exact HA.out.fin_nd 0 0 rfl rfl rfl rfl rfl HT.out.symm
theorem S.stReturn {E:PE} {R:(x:Fn)→PM x.Out} (hR:Env E R) {F:Nat→Prop} {w:World} {p:Ps} (t:Tk) (hk:t.kind=1) (ht:t.text=⟨#[114,101,116,117,114,110]⟩) (h:St E F w p) (hne:R (.returned t) p≠ .out):
  Calls Tryz.prog 44 #[.pointer (some ⟨E.b,0,none⟩),.agg #[.int .i64 t.kind,.string t.text,.int .i64 t.from',.int .i64 t.till,.bool t.line],.bool true] w (Ans E F X0 w (R (.returned t) p) fun n v w'=>IsP E F w' n v):=by
 obtain⟨T,hT⟩: ∃T,R (.returned t) p=T:=⟨_,rfl⟩
 rw [hT] at hne⊢
 have d0:punctT t ⟨#[123]⟩=false:=pk1 hk _
 have d1:punctT t ⟨#[59]⟩=false:=pk1 hk _
 have hk1w:(t.kind !=1)=false:=nf hk
 have hw0:(t.text.toList== [97,115,121,110,99])=false:=by rw [bt,ht];decide
 have hw1:(t.text.toList== [118,97,114])=false:=by rw [bt,ht];decide
 have hw2:(t.text.toList== [108,101,116])=false:=by rw [bt,ht];decide
 have hw3:(t.text.toList== [99,111,110,115,116])=false:=by rw [bt,ht];decide
 have hw4:(t.text.toList== [102,117,110,99,116,105,111,110])=false:=by rw [bt,ht];decide
 have hw5:(t.text.toList== [99,108,97,115,115])=false:=by rw [bt,ht];decide
 have hw6:(t.text.toList== [105,102])=false:=by rw [bt,ht];decide
 have hw7:(t.text.toList== [102,111,114])=false:=by rw [bt,ht];decide
 have hw8:(t.text.toList== [119,104,105,108,101])=false:=by rw [bt,ht];decide
 have hw9:(t.text.toList== [100,111])=false:=by rw [bt,ht];decide
 have hw10:(t.text.toList== [114,101,116,117,114,110])=true:=by rw [bt,ht];decide
 have hw11:(t.text.toList== [98,114,101,97,107])=false:=by rw [bt,ht];decide
 have hw12:(t.text.toList== [99,111,110,116,105,110,117,101])=false:=by rw [bt,ht];decide
 have hw13:(t.text.toList== [116,104,114,111,119])=false:=by rw [bt,ht];decide
 have hw14:(t.text.toList== [116,114,121])=false:=by rw [bt,ht];decide
 have hw15:(t.text.toList== [115,119,105,116,99,104])=false:=by rw [bt,ht];decide
 have hw16:(t.text.toList== [100,101,98,117,103,103,101,114])=false:=by rw [bt,ht];decide
 clear hk ht
 have HT:=Lib.hid hT
 have HN:=Lib.hid hne
 have HA:=Sa.start0 (X:=X0) h
 clear h hne hT
 go_enter Tryz.func44,Tryz.ntmps44
 go_wp2_with fail
 replace HA:=HA.out.pT (g:=w.heap.size) rfl t
 replace HA:=HA.out.pZ (g:=(w.heap.size+1)) (by simp)
 refine HA.out.stepQ (fun _ h=>P.punct t ⟨#[123]⟩ _) ?_
 clear HA
 intro w1 HA
 obtain⟨zr,zt,-⟩:=HA.out.fs
 have yr:=HA.out.fw 0 rfl
 go_wp2_with fail
 refine HA.out.stepQ (fun _ h=>P.punct t ⟨#[59]⟩ _) ?_
 clear zr zt yr HA
 intro w2 HA
 obtain⟨zr,zt,-⟩:=HA.out.fs
 have yr:=HA.out.fw 0 rfl
 go_wp2_with fail
 replace HT:=htail HT
 refine HA.out.stepN HT HN (fun _ h e=>hR.h (.returned t) _ _ _ h.s e) ?_ ?_
 ·intro _ _ _ H;go_wp2_with fail;exact⟨rfl,Ans.badh H⟩
 clear zr zt yr HT HA
 intro z az cz q3 w3 HT HA
 obtain⟨zr,zt,-⟩:=HA.out.fs
 have yr:=HA.out.fw 0 rfl
 go_wp2_with fail
 exact HA.out.fin_nd 0 0 rfl rfl rfl rfl rfl HT.out.symm
theorem S.stBreak {E:PE} {R:(x:Fn)→PM x.Out} (hR:Env E R) {F:Nat→Prop} {w:World} {p:Ps} (t:Tk) (hk:t.kind=1) (ht:t.text=⟨#[98,114,101,97,107]⟩) (h:St E F w p) (hne:R (.jump t) p≠ .out):
  Calls Tryz.prog 44 #[.pointer (some ⟨E.b,0,none⟩),.agg #[.int .i64 t.kind,.string t.text,.int .i64 t.from',.int .i64 t.till,.bool t.line],.bool true] w (Ans E F X0 w (R (.jump t) p) fun n v w'=>IsP E F w' n v):=by
 obtain⟨T,hT⟩: ∃T,R (.jump t) p=T:=⟨_,rfl⟩
 rw [hT] at hne⊢
 have d0:punctT t ⟨#[123]⟩=false:=pk1 hk _
 have d1:punctT t ⟨#[59]⟩=false:=pk1 hk _
 have hk1w:(t.kind !=1)=false:=nf hk
 have hw0:(t.text.toList== [97,115,121,110,99])=false:=by rw [bt,ht];decide
 have hw1:(t.text.toList== [118,97,114])=false:=by rw [bt,ht];decide
 have hw2:(t.text.toList== [108,101,116])=false:=by rw [bt,ht];decide
 have hw3:(t.text.toList== [99,111,110,115,116])=false:=by rw [bt,ht];decide
 have hw4:(t.text.toList== [102,117,110,99,116,105,111,110])=false:=by rw [bt,ht];decide
 have hw5:(t.text.toList== [99,108,97,115,115])=false:=by rw [bt,ht];decide
 have hw6:(t.text.toList== [105,102])=false:=by rw [bt,ht];decide
 have hw7:(t.text.toList== [102,111,114])=false:=by rw [bt,ht];decide
 have hw8:(t.text.toList== [119,104,105,108,101])=false:=by rw [bt,ht];decide
 have hw9:(t.text.toList== [100,111])=false:=by rw [bt,ht];decide
 have hw10:(t.text.toList== [114,101,116,117,114,110])=false:=by rw [bt,ht];decide
 have hw11:(t.text.toList== [98,114,101,97,107])=true:=by rw [bt,ht];decide
 have hw12:(t.text.toList== [99,111,110,116,105,110,117,101])=false:=by rw [bt,ht];decide
 have hw13:(t.text.toList== [116,104,114,111,119])=false:=by rw [bt,ht];decide
 have hw14:(t.text.toList== [116,114,121])=false:=by rw [bt,ht];decide
 have hw15:(t.text.toList== [115,119,105,116,99,104])=false:=by rw [bt,ht];decide
 have hw16:(t.text.toList== [100,101,98,117,103,103,101,114])=false:=by rw [bt,ht];decide
 clear hk ht
 have HT:=Lib.hid hT
 have HN:=Lib.hid hne
 have HA:=Sa.start0 (X:=X0) h
 clear h hne hT
 go_enter Tryz.func44,Tryz.ntmps44
 go_wp2_with fail
 replace HA:=HA.out.pT (g:=w.heap.size) rfl t
 replace HA:=HA.out.pZ (g:=(w.heap.size+1)) (by simp)
 refine HA.out.stepQ (fun _ h=>P.punct t ⟨#[123]⟩ _) ?_
 clear HA
 intro w1 HA
 obtain⟨zr,zt,-⟩:=HA.out.fs
 have yr:=HA.out.fw 0 rfl
 go_wp2_with fail
 refine HA.out.stepQ (fun _ h=>P.punct t ⟨#[59]⟩ _) ?_
 clear zr zt yr HA
 intro w2 HA
 obtain⟨zr,zt,-⟩:=HA.out.fs
 have yr:=HA.out.fw 0 rfl
 go_wp2_with fail
 replace HT:=htail HT
 refine HA.out.stepN HT HN (fun _ h e=>hR.h (.jump t) _ _ _ h.s e) ?_ ?_
 ·intro _ _ _ H;go_wp2_with fail;exact⟨rfl,Ans.badh H⟩
 clear zr zt yr HT HA
 intro z az cz q3 w3 HT HA
 obtain⟨zr,zt,-⟩:=HA.out.fs
 have yr:=HA.out.fw 0 rfl
 go_wp2_with fail
 exact HA.out.fin_nd 0 0 rfl rfl rfl rfl rfl HT.out.symm
theorem S.stContinue {E:PE} {R:(x:Fn)→PM x.Out} (hR:Env E R) {F:Nat→Prop} {w:World} {p:Ps} (t:Tk) (hk:t.kind=1) (ht:t.text=⟨#[99,111,110,116,105,110,117,101]⟩) (h:St E F w p) (hne:R (.jump t) p≠ .out):
  Calls Tryz.prog 44 #[.pointer (some ⟨E.b,0,none⟩),.agg #[.int .i64 t.kind,.string t.text,.int .i64 t.from',.int .i64 t.till,.bool t.line],.bool true] w (Ans E F X0 w (R (.jump t) p) fun n v w'=>IsP E F w' n v):=by
 obtain⟨T,hT⟩: ∃T,R (.jump t) p=T:=⟨_,rfl⟩
 rw [hT] at hne⊢
 have d0:punctT t ⟨#[123]⟩=false:=pk1 hk _
 have d1:punctT t ⟨#[59]⟩=false:=pk1 hk _
 have hk1w:(t.kind !=1)=false:=nf hk
 have hw0:(t.text.toList== [97,115,121,110,99])=false:=by rw [bt,ht];decide
 have hw1:(t.text.toList== [118,97,114])=false:=by rw [bt,ht];decide
 have hw2:(t.text.toList== [108,101,116])=false:=by rw [bt,ht];decide
 have hw3:(t.text.toList== [99,111,110,115,116])=false:=by rw [bt,ht];decide
 have hw4:(t.text.toList== [102,117,110,99,116,105,111,110])=false:=by rw [bt,ht];decide
 have hw5:(t.text.toList== [99,108,97,115,115])=false:=by rw [bt,ht];decide
 have hw6:(t.text.toList== [105,102])=false:=by rw [bt,ht];decide
 have hw7:(t.text.toList== [102,111,114])=false:=by rw [bt,ht];decide
 have hw8:(t.text.toList== [119,104,105,108,101])=false:=by rw [bt,ht];decide
 have hw9:(t.text.toList== [100,111])=false:=by rw [bt,ht];decide
 have hw10:(t.text.toList== [114,101,116,117,114,110])=false:=by rw [bt,ht];decide
 have hw11:(t.text.toList== [98,114,101,97,107])=false:=by rw [bt,ht];decide
 have hw12:(t.text.toList== [99,111,110,116,105,110,117,101])=true:=by rw [bt,ht];decide
 have hw13:(t.text.toList== [116,104,114,111,119])=false:=by rw [bt,ht];decide
 have hw14:(t.text.toList== [116,114,121])=false:=by rw [bt,ht];decide
 have hw15:(t.text.toList== [115,119,105,116,99,104])=false:=by rw [bt,ht];decide
 have hw16:(t.text.toList== [100,101,98,117,103,103,101,114])=false:=by rw [bt,ht];decide
 clear hk ht
 have HT:=Lib.hid hT
 have HN:=Lib.hid hne
 have HA:=Sa.start0 (X:=X0) h
 clear h hne hT
 go_enter Tryz.func44,Tryz.ntmps44
 go_wp2_with fail
 replace HA:=HA.out.pT (g:=w.heap.size) rfl t
 replace HA:=HA.out.pZ (g:=(w.heap.size+1)) (by simp)
 refine HA.out.stepQ (fun _ h=>P.punct t ⟨#[123]⟩ _) ?_
 clear HA
 intro w1 HA
 obtain⟨zr,zt,-⟩:=HA.out.fs
 have yr:=HA.out.fw 0 rfl
 go_wp2_with fail
 refine HA.out.stepQ (fun _ h=>P.punct t ⟨#[59]⟩ _) ?_
 clear zr zt yr HA
 intro w2 HA
 obtain⟨zr,zt,-⟩:=HA.out.fs
 have yr:=HA.out.fw 0 rfl
 go_wp2_with fail
 replace HT:=htail HT
 refine HA.out.stepN HT HN (fun _ h e=>hR.h (.jump t) _ _ _ h.s e) ?_ ?_
 ·intro _ _ _ H;go_wp2_with fail;exact⟨rfl,Ans.badh H⟩
 clear zr zt yr HT HA
 intro z az cz q3 w3 HT HA
 obtain⟨zr,zt,-⟩:=HA.out.fs
 have yr:=HA.out.fw 0 rfl
 go_wp2_with fail
 exact HA.out.fin_nd 0 0 rfl rfl rfl rfl rfl HT.out.symm
theorem S.stThrow {E:PE} {R:(x:Fn)→PM x.Out} (hR:Env E R) {F:Nat→Prop} {w:World} {p:Ps} (t:Tk) (hk:t.kind=1) (ht:t.text=⟨#[116,104,114,111,119]⟩) (h:St E F w p) (hne:throwQ E.s R t p≠ .out):
  Calls Tryz.prog 44 #[.pointer (some ⟨E.b,0,none⟩),.agg #[.int .i64 t.kind,.string t.text,.int .i64 t.from',.int .i64 t.till,.bool t.line],.bool true] w (Ans E F X0 w (throwQ E.s R t p) fun n v w'=>IsP E F w' n v):=by
 obtain⟨T,hT⟩: ∃T,throwQ E.s R t p=T:=⟨_,rfl⟩
 rw [hT] at hne⊢
 unfold throwQ at hT
 have d0:punctT t ⟨#[123]⟩=false:=pk1 hk _
 have d1:punctT t ⟨#[59]⟩=false:=pk1 hk _
 have hk1w:(t.kind !=1)=false:=nf hk
 have hw0:(t.text.toList== [97,115,121,110,99])=false:=by rw [bt,ht];decide
 have hw1:(t.text.toList== [118,97,114])=false:=by rw [bt,ht];decide
 have hw2:(t.text.toList== [108,101,116])=false:=by rw [bt,ht];decide
 have hw3:(t.text.toList== [99,111,110,115,116])=false:=by rw [bt,ht];decide
 have hw4:(t.text.toList== [102,117,110,99,116,105,111,110])=false:=by rw [bt,ht];decide
 have hw5:(t.text.toList== [99,108,97,115,115])=false:=by rw [bt,ht];decide
 have hw6:(t.text.toList== [105,102])=false:=by rw [bt,ht];decide
 have hw7:(t.text.toList== [102,111,114])=false:=by rw [bt,ht];decide
 have hw8:(t.text.toList== [119,104,105,108,101])=false:=by rw [bt,ht];decide
 have hw9:(t.text.toList== [100,111])=false:=by rw [bt,ht];decide
 have hw10:(t.text.toList== [114,101,116,117,114,110])=false:=by rw [bt,ht];decide
 have hw11:(t.text.toList== [98,114,101,97,107])=false:=by rw [bt,ht];decide
 have hw12:(t.text.toList== [99,111,110,116,105,110,117,101])=false:=by rw [bt,ht];decide
 have hw13:(t.text.toList== [116,104,114,111,119])=true:=by rw [bt,ht];decide
 have hw14:(t.text.toList== [116,114,121])=false:=by rw [bt,ht];decide
 have hw15:(t.text.toList== [115,119,105,116,99,104])=false:=by rw [bt,ht];decide
 have hw16:(t.text.toList== [100,101,98,117,103,103,101,114])=false:=by rw [bt,ht];decide
 clear hk ht
 have HT:=Lib.hid hT
 have HN:=Lib.hid hne
 have HA:=Sa.start0 (X:=X0) h
 clear h hne hT
 go_enter Tryz.func44,Tryz.ntmps44
 go_wp2_with fail
 replace HA:=HA.out.pT (g:=w.heap.size) rfl t
 replace HA:=HA.out.pZ (g:=(w.heap.size+1)) (by simp)
 refine HA.out.stepQ (fun _ h=>P.punct t ⟨#[123]⟩ _) ?_
 clear HA
 intro w1 HA
 obtain⟨zr,zt,-⟩:=HA.out.fs
 have yr:=HA.out.fw 0 rfl
 go_wp2_with fail
 refine HA.out.stepQ (fun _ h=>P.punct t ⟨#[59]⟩ _) ?_
 clear zr zt yr HA
 intro w2 HA
 obtain⟨zr,zt,-⟩:=HA.out.fs
 have yr:=HA.out.fw 0 rfl
 go_wp2_with fail
 refine HA.out.stepV HT HN (fun _ h e=>P.take hR.ok h.s e) ?_ ?_
 ·intro _ _ _ H;go_wp2_with fail;exact⟨rfl,Ans.badh H⟩
 clear zr zt yr HT HA
 intro _ q3 w3 HT HA
 obtain⟨zr,zt,-⟩:=HA.out.fs
 have yr:=HA.out.fw 0 rfl
 go_wp2_with fail
 refine HA.out.stepV HT HN (fun _ h e=>P.peek hR.ok 2 h.s e) ?_ ?_
 ·intro _ _ _ H;go_wp2_with fail;exact⟨rfl,Ans.badh H⟩
 clear zr zt yr HT HA
 intro u q4 w4 HT HA
 obtain⟨zr,zt,-⟩:=HA.out.fs
 have yr:=HA.out.fw 0 rfl
 cases hl:u.line with
 |true=>
  replace HT:=hpos HT (by exact hl)
  go_wp2_with fail
  have H:=HA.out.bad HT.out.symm
  refine HA.out.odd ?_
  go_wp2_with fail
  exact⟨rfl,Ans.badh H⟩
 |false=>
  replace HT:=hneg HT (by rw [hl];decide)
  go_wp2_with fail
  refine HA.out.stepN HT HN (fun _ h e=>hR.h .expression _ _ _ h.s e) ?_ ?_
  ·intro _ _ _ H;go_wp2_with fail;exact⟨rfl,Ans.badh H⟩
  clear zr zt yr HT HA
  intro x ax cx q5 w5 HT HA
  obtain⟨zr,zt,-⟩:=HA.out.fs
  have yr:=HA.out.fw 0 rfl
  go_wp2_with fail
  replace HA:=HA.out.pN (g:=w5.heap.size) rfl x ax cx
  refine HA.out.stepV HT HN (fun _ h e=>P.semicolon hR.ok h.s e) ?_ ?_
  ·intro _ _ _ H;go_wp2_with fail;exact⟨rfl,Ans.badh H⟩
  clear zr zt yr HT HA
  intro _ q6 w6 HT HA
  obtain⟨zx,zr,zt,-⟩:=HA.out.fs
  have yr:=HA.out.fw 1 rfl
  go_wp2_with fail
  refine HA.out.node 71 ⟨#[]⟩ t.from' [(x,ax,cx)] (by simp) rfl rfl rfl rfl HT ?_
  clear zx zr zt yr HT HA
  intro k ak ck w7 _ HT HA
  obtain⟨zx,zr,zt,-⟩:=HA.out.fs
  have yr:=HA.out.fw 1 rfl
  go_wp2_with fail
  exact HA.out.fin_nd 1 0 rfl rfl rfl rfl rfl HT.out.symm
theorem S.stSwitch {E:PE} {R:(x:Fn)→PM x.Out} (hR:Env E R) {F:Nat→Prop} {w:World} {p:Ps} (t:Tk) (hk:t.kind=1) (ht:t.text=⟨#[115,119,105,116,99,104]⟩) (h:St E F w p) (hne:R (.switched t) p≠ .out):
  Calls Tryz.prog 44 #[.pointer (some ⟨E.b,0,none⟩),.agg #[.int .i64 t.kind,.string t.text,.int .i64 t.from',.int .i64 t.till,.bool t.line],.bool true] w (Ans E F X0 w (R (.switched t) p) fun n v w'=>IsP E F w' n v):=by
 obtain⟨T,hT⟩: ∃T,R (.switched t) p=T:=⟨_,rfl⟩
 rw [hT] at hne⊢
 have d0:punctT t ⟨#[123]⟩=false:=pk1 hk _
 have d1:punctT t ⟨#[59]⟩=false:=pk1 hk _
 have hk1w:(t.kind !=1)=false:=nf hk
 have hw0:(t.text.toList== [97,115,121,110,99])=false:=by rw [bt,ht];decide
 have hw1:(t.text.toList== [118,97,114])=false:=by rw [bt,ht];decide
 have hw2:(t.text.toList== [108,101,116])=false:=by rw [bt,ht];decide
 have hw3:(t.text.toList== [99,111,110,115,116])=false:=by rw [bt,ht];decide
 have hw4:(t.text.toList== [102,117,110,99,116,105,111,110])=false:=by rw [bt,ht];decide
 have hw5:(t.text.toList== [99,108,97,115,115])=false:=by rw [bt,ht];decide
 have hw6:(t.text.toList== [105,102])=false:=by rw [bt,ht];decide
 have hw7:(t.text.toList== [102,111,114])=false:=by rw [bt,ht];decide
 have hw8:(t.text.toList== [119,104,105,108,101])=false:=by rw [bt,ht];decide
 have hw9:(t.text.toList== [100,111])=false:=by rw [bt,ht];decide
 have hw10:(t.text.toList== [114,101,116,117,114,110])=false:=by rw [bt,ht];decide
 have hw11:(t.text.toList== [98,114,101,97,107])=false:=by rw [bt,ht];decide
 have hw12:(t.text.toList== [99,111,110,116,105,110,117,101])=false:=by rw [bt,ht];decide
 have hw13:(t.text.toList== [116,104,114,111,119])=false:=by rw [bt,ht];decide
 have hw14:(t.text.toList== [116,114,121])=false:=by rw [bt,ht];decide
 have hw15:(t.text.toList== [115,119,105,116,99,104])=true:=by rw [bt,ht];decide
 have hw16:(t.text.toList== [100,101,98,117,103,103,101,114])=false:=by rw [bt,ht];decide
 clear hk ht
 have HT:=Lib.hid hT
 have HN:=Lib.hid hne
 have HA:=Sa.start0 (X:=X0) h
 clear h hne hT
 go_enter Tryz.func44,Tryz.ntmps44
 go_wp2_with fail
 replace HA:=HA.out.pT (g:=w.heap.size) rfl t
 replace HA:=HA.out.pZ (g:=(w.heap.size+1)) (by simp)
 refine HA.out.stepQ (fun _ h=>P.punct t ⟨#[123]⟩ _) ?_
 clear HA
 intro w1 HA
 obtain⟨zr,zt,-⟩:=HA.out.fs
 have yr:=HA.out.fw 0 rfl
 go_wp2_with fail
 refine HA.out.stepQ (fun _ h=>P.punct t ⟨#[59]⟩ _) ?_
 clear zr zt yr HA
 intro w2 HA
 obtain⟨zr,zt,-⟩:=HA.out.fs
 have yr:=HA.out.fw 0 rfl
 go_wp2_with fail
 replace HT:=htail HT
 refine HA.out.stepN HT HN (fun _ h e=>hR.h (.switched t) _ _ _ h.s e) ?_ ?_
 ·intro _ _ _ H;go_wp2_with fail;exact⟨rfl,Ans.badh H⟩
 clear zr zt yr HT HA
 intro z az cz q3 w3 HT HA
 obtain⟨zr,zt,-⟩:=HA.out.fs
 have yr:=HA.out.fw 0 rfl
 go_wp2_with fail
 exact HA.out.fin_nd 0 0 rfl rfl rfl rfl rfl HT.out.symm
theorem S.stAsync {E:PE} {R:(x:Fn)→PM x.Out} (hR:Env E R) {F:Nat→Prop} {w:World} {p:Ps} (t:Tk) (hk:t.kind=1) (ht:t.text=⟨#[97,115,121,110,99]⟩) (h:St E F w p) (hne:asyncQ E.s E.m R t p≠ .out):
  Calls Tryz.prog 44 #[.pointer (some ⟨E.b,0,none⟩),.agg #[.int .i64 t.kind,.string t.text,.int .i64 t.from',.int .i64 t.till,.bool t.line],.bool true] w (Ans E F X0 w (asyncQ E.s E.m R t p) fun n v w'=>IsP E F w' n v):=by
 obtain⟨T,hT⟩: ∃T,asyncQ E.s E.m R t p=T:=⟨_,rfl⟩
 rw [hT] at hne⊢
 unfold asyncQ at hT
 have d0:punctT t ⟨#[123]⟩=false:=pk1 hk _
 have d1:punctT t ⟨#[59]⟩=false:=pk1 hk _
 have hk1w:(t.kind !=1)=false:=nf hk
 have hw0:(t.text.toList== [97,115,121,110,99])=true:=by rw [bt,ht];decide
 have hw1:(t.text.toList== [118,97,114])=false:=by rw [bt,ht];decide
 have hw2:(t.text.toList== [108,101,116])=false:=by rw [bt,ht];decide
 have hw3:(t.text.toList== [99,111,110,115,116])=false:=by rw [bt,ht];decide
 have hw4:(t.text.toList== [102,117,110,99,116,105,111,110])=false:=by rw [bt,ht];decide
 have hw5:(t.text.toList== [99,108,97,115,115])=false:=by rw [bt,ht];decide
 have hw6:(t.text.toList== [105,102])=false:=by rw [bt,ht];decide
 have hw7:(t.text.toList== [102,111,114])=false:=by rw [bt,ht];decide
 have hw8:(t.text.toList== [119,104,105,108,101])=false:=by rw [bt,ht];decide
 have hw9:(t.text.toList== [100,111])=false:=by rw [bt,ht];decide
 have hw10:(t.text.toList== [114,101,116,117,114,110])=false:=by rw [bt,ht];decide
 have hw11:(t.text.toList== [98,114,101,97,107])=false:=by rw [bt,ht];decide
 have hw12:(t.text.toList== [99,111,110,116,105,110,117,101])=false:=by rw [bt,ht];decide
 have hw13:(t.text.toList== [116,104,114,111,119])=false:=by rw [bt,ht];decide
 have hw14:(t.text.toList== [116,114,121])=false:=by rw [bt,ht];decide
 have hw15:(t.text.toList== [115,119,105,116,99,104])=false:=by rw [bt,ht];decide
 have hw16:(t.text.toList== [100,101,98,117,103,103,101,114])=false:=by rw [bt,ht];decide
 clear hk ht
 have HT:=Lib.hid hT
 have HN:=Lib.hid hne
 have HA:=Sa.start0 (X:=X0) h
 clear h hne hT
 go_enter Tryz.func44,Tryz.ntmps44
 go_wp2_with fail
 replace HA:=HA.out.pT (g:=w.heap.size) rfl t
 replace HA:=HA.out.pZ (g:=(w.heap.size+1)) (by simp)
 refine HA.out.stepQ (fun _ h=>P.punct t ⟨#[123]⟩ _) ?_
 clear HA
 intro w1 HA
 obtain⟨zr,zt,-⟩:=HA.out.fs
 have yr:=HA.out.fw 0 rfl
 go_wp2_with fail
 refine HA.out.stepQ (fun _ h=>P.punct t ⟨#[59]⟩ _) ?_
 clear zr zt yr HA
 intro w2 HA
 obtain⟨zr,zt,-⟩:=HA.out.fs
 have yr:=HA.out.fw 0 rfl
 go_wp2_with fail
 refine HA.out.look hR.ok t.till HT HN ?_
 clear zr zt yr HT HA
 intro a w3 HT HA
 obtain⟨zr,zt,-⟩:=HA.out.fs
 have yr:=HA.out.fw 0 rfl
 go_wp2_with fail
 replace HA:=HA.out.pT (g:=w3.heap.size) rfl a
 refine HA.out.stepQ (fun _ h=>P.name a ⟨#[102,117,110,99,116,105,111,110]⟩ _) ?_
 clear zr zt yr HA
 intro w4 HA
 obtain⟨za,zr,zt,-⟩:=HA.out.fs
 have yr:=HA.out.fw 1 rfl
 cases hn:nameT a ⟨#[102,117,110,99,116,105,111,110]⟩ with
 |true=>
  cases hl:a.line with
  |true=>
   replace HT:=hneg HT (by rw [hn,hl];decide)
   go_wp2_with fail
   refine HA.out.look hR.ok t.till HT HN ?_
   clear za zr zt yr HT HA
   intro nx w5 HT HA
   obtain⟨za,zr,zt,-⟩:=HA.out.fs
   have yr:=HA.out.fw 1 rfl
   replace HT:=hget HT
   go_wp2_with fail
   replace HA:=HA.out.pT (g:=w5.heap.size) rfl nx
   refine HA.out.stepQ (fun _ h=>P.ident t h.s) ?_
   clear za zr zt yr HA
   intro w6 HA
   obtain⟨znx,za,zr,zt,-⟩:=HA.out.fs
   have yr:=HA.out.fw 2 rfl
   cases hi:identB E.m p.flags t with
   |true=>
    go_wp2_with fail
    refine HA.out.stepQ (fun _ h=>P.punct nx ⟨#[58]⟩ _) ?_
    clear znx za zr zt yr HA
    intro w7 HA
    obtain⟨znx,za,zr,zt,-⟩:=HA.out.fs
    have yr:=HA.out.fw 2 rfl
    cases hc:punctT nx ⟨#[58]⟩ with
    |true=>
     replace HT:=hpos HT (by rw [hi,hc];rfl)
     exact absurd HT.out.symm HN.out
    |false=>
     replace HT:=hneg HT (by rw [hi,hc];decide)
     go_wp2_with fail
     replace HT:=htail HT
     refine HA.out.stepN HT HN (fun _ h e=>hR.h (.simple t) _ _ _ h.s e) ?_ ?_
     ·intro _ _ _ H;go_wp2_with fail;exact⟨rfl,Ans.badh H⟩
     clear znx za zr zt yr HT HA
     intro z az cz q8 w8 HT HA
     obtain⟨znx,za,zr,zt,-⟩:=HA.out.fs
     have yr:=HA.out.fw 2 rfl
     go_wp2_with fail
     exact HA.out.fin_nd 2 0 rfl rfl rfl rfl rfl HT.out.symm
   |false=>
    replace HT:=hneg HT (by rw [hi];simp)
    go_wp2_with fail
    replace HT:=htail HT
    refine HA.out.stepN HT HN (fun _ h e=>hR.h (.simple t) _ _ _ h.s e) ?_ ?_
    ·intro _ _ _ H;go_wp2_with fail;exact⟨rfl,Ans.badh H⟩
    clear znx za zr zt yr HT HA
    intro z az cz q7 w7 HT HA
    obtain⟨znx,za,zr,zt,-⟩:=HA.out.fs
    have yr:=HA.out.fw 2 rfl
    go_wp2_with fail
    exact HA.out.fin_nd 2 0 rfl rfl rfl rfl rfl HT.out.symm
  |false=>
   replace HT:=hpos HT (by rw [hn,hl];rfl)
   exact absurd HT.out.symm HN.out
 |false=>
  replace HT:=hneg HT (by rw [hn];simp)
  go_wp2_with fail
  refine HA.out.look hR.ok t.till HT HN ?_
  clear za zr zt yr HT HA
  intro nx w5 HT HA
  obtain⟨za,zr,zt,-⟩:=HA.out.fs
  have yr:=HA.out.fw 1 rfl
  replace HT:=hget HT
  go_wp2_with fail
  replace HA:=HA.out.pT (g:=w5.heap.size) rfl nx
  refine HA.out.stepQ (fun _ h=>P.ident t h.s) ?_
  clear za zr zt yr HA
  intro w6 HA
  obtain⟨znx,za,zr,zt,-⟩:=HA.out.fs
  have yr:=HA.out.fw 2 rfl
  cases hi:identB E.m p.flags t with
  |true=>
   go_wp2_with fail
   refine HA.out.stepQ (fun _ h=>P.punct nx ⟨#[58]⟩ _) ?_
   clear znx za zr zt yr HA
   intro w7 HA
   obtain⟨znx,za,zr,zt,-⟩:=HA.out.fs
   have yr:=HA.out.fw 2 rfl
   cases hc:punctT nx ⟨#[58]⟩ with
   |true=>
    replace HT:=hpos HT (by rw [hi,hc];rfl)
    exact absurd HT.out.symm HN.out
   |false=>
    replace HT:=hneg HT (by rw [hi,hc];decide)
    go_wp2_with fail
    replace HT:=htail HT
    refine HA.out.stepN HT HN (fun _ h e=>hR.h (.simple t) _ _ _ h.s e) ?_ ?_
    ·intro _ _ _ H;go_wp2_with fail;exact⟨rfl,Ans.badh H⟩
    clear znx za zr zt yr HT HA
    intro z az cz q8 w8 HT HA
    obtain⟨znx,za,zr,zt,-⟩:=HA.out.fs
    have yr:=HA.out.fw 2 rfl
    go_wp2_with fail
    exact HA.out.fin_nd 2 0 rfl rfl rfl rfl rfl HT.out.symm
  |false=>
   replace HT:=hneg HT (by rw [hi];simp)
   go_wp2_with fail
   replace HT:=htail HT
   refine HA.out.stepN HT HN (fun _ h e=>hR.h (.simple t) _ _ _ h.s e) ?_ ?_
   ·intro _ _ _ H;go_wp2_with fail;exact⟨rfl,Ans.badh H⟩
   clear znx za zr zt yr HT HA
   intro z az cz q7 w7 HT HA
   obtain⟨znx,za,zr,zt,-⟩:=HA.out.fs
   have yr:=HA.out.fw 2 rfl
   go_wp2_with fail
   exact HA.out.fin_nd 2 0 rfl rfl rfl rfl rfl HT.out.symm
theorem S.statementX {E:PE} {R:(x:Fn)→PM x.Out} (hR:Env E R) {F:Nat→Prop} {w:World} {p:Ps} (t:Tk) (list:Bool) (h:St E F w p) (hne:statementQ E.s E.m R t list p≠ .out):
  Calls Tryz.prog 44 #[.pointer (some ⟨E.b,0,none⟩),.agg #[.int .i64 t.kind,.string t.text,.int .i64 t.from',.int .i64 t.till,.bool t.line],.bool list] w (Ans E F X0 w (statementQ E.s E.m R t list p) fun n v w'=>IsP E F w' n v):=by
 have e: ∀x,statementQ E.s E.m R t list=x→statementQ E.s E.m R t list p=x p:=fun x h=>by rw [h]
 by_cases h0:list=false∨t.kind≠1
 ·rw [e _ (if_pos h0)] at hne⊢
  exact S.statement hR t list h hne
 ·have hk:t.kind=1:=Decidable.byContradiction fun h=>h0 (.inr h)
  have hl:list=true:=by cases list with
   |true=>rfl
   |false=>exact absurd (.inl rfl) h0
  subst hl
  by_cases h1:t.text=⟨#[102,117,110,99,116,105,111,110]⟩
  ·have e2:=e _ (show _=_ by unfold statementQ;rw [if_neg h0,if_pos h1])
   rw [e2] at hne⊢
   exact S.stFunction hR t hk h1 h hne
  by_cases h2:t.text=⟨#[114,101,116,117,114,110]⟩
  ·have e2:=e _ (show _=_ by unfold statementQ;rw [if_neg h0,if_neg h1,if_pos h2])
   rw [e2] at hne⊢
   exact S.stReturn hR t hk h2 h hne
  by_cases h3:t.text=⟨#[98,114,101,97,107]⟩
  ·have e2:=e _ (show _=_ by unfold statementQ;rw [if_neg h0,if_neg h1,if_neg h2,if_pos h3])
   rw [e2] at hne⊢
   exact S.stBreak hR t hk h3 h hne
  by_cases h4:t.text=⟨#[99,111,110,116,105,110,117,101]⟩
  ·have e2:=e _ (show _=_ by unfold statementQ;rw [if_neg h0,if_neg h1,if_neg h2,if_neg h3,if_pos h4])
   rw [e2] at hne⊢
   exact S.stContinue hR t hk h4 h hne
  by_cases h5:t.text=⟨#[116,104,114,111,119]⟩
  ·have e2:=e _ (show _=_ by unfold statementQ;rw [if_neg h0,if_neg h1,if_neg h2,if_neg h3,if_neg h4,if_pos h5])
   rw [e2] at hne⊢
   exact S.stThrow hR t hk h5 h hne
  by_cases h6:t.text=⟨#[97,115,121,110,99]⟩
  ·have e2:=e _ (show _=_ by unfold statementQ;rw [if_neg h0,if_neg h1,if_neg h2,if_neg h3,if_neg h4,if_neg h5,if_pos h6])
   rw [e2] at hne⊢
   exact S.stAsync hR t hk h6 h hne
  by_cases h7:t.text=⟨#[115,119,105,116,99,104]⟩
  ·have e2:=e _ (show _=_ by unfold statementQ;rw [if_neg h0,if_neg h1,if_neg h2,if_neg h3,if_neg h4,if_neg h5,if_neg h6,if_pos h7])
   rw [e2] at hne⊢
   exact S.stSwitch hR t hk h7 h hne
  have e2:=e _ (show _=_ by unfold statementQ;rw [if_neg h0,if_neg h1,if_neg h2,if_neg h3,if_neg h4,if_neg h5,if_neg h6,if_neg h7])
  rw [e2] at hne⊢
  exact S.statement hR t true h hne
end
end Go.Proofs.YtnahajcjpmbflaaGreatDoor
