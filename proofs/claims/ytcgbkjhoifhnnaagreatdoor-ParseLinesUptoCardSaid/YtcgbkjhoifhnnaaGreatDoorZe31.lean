/- Steps (Vo). Conditions: as stated. -/
import Derived.Test.YtcgbkjhoifhnnaaGreatDoorZe22
import Derived.Test.YtcgbkjhoifhnnaaGreatDoorZe32
set_option maxHeartbeats 4000000
set_option maxRecDepth 100000
namespace Go.Proofs.YtcgbkjhoifhnnaaGreatDoor
section
open Go.RowKit
attribute [local go_sem] ab4 ab5 ab6 ab7 ab8 ab9
attribute [local go_sem ↓] Go.wp_at_zero Go.wp_at_succ
theorem pk1 {t:Tk} (h:t.kind=1) (x:ByteArray):punctT t x=false:=by
 unfold punctT
 rw [h]
 rfl
def wdW:List ByteArray:= [⟨#[108,101,116]⟩,⟨#[99,111,110,115,116]⟩,⟨#[102,117,110,99,116,105,111,110]⟩,⟨#[99,108,97,115,115]⟩]
theorem bL9 {t:ByteArray} (h:ag1 t kwW=false):ag1 t wdW=false:=by
 have hno:=bz3 h
 unfold ag1
 rw [List.any_eq_false]
 intro x hx
 simp only [wdW,List.mem_cons,List.not_mem_nil,or_false] at hx
 simp only [decide_eq_true_eq]
 exact hno x (by unfold kwW;rcases hx with rfl|rfl|rfl|rfl<;>simp)
theorem S.snVar {E:PE} {R:(x:Fn)→PM x.Out} (hR:Env E R) {F:Nat→Prop} {w:World} {p:Ps} (t:Tk) (hk:t.kind=1) (ht:t.text=⟨#[118,97,114]⟩) (h:St E F w p) (hne:varN E.s R t p≠ .out):
  Calls Tryz.prog 42 #[.pointer (some ⟨E.b,0,none⟩),.agg #[.int .i64 t.kind,.string t.text,.int .i64 t.from',.int .i64 t.till,.bool t.line],.bool true] w (Ans E F X0 w (varN E.s R t p) fun n v w'=>IsP E F w' n v):=by
 obtain⟨T,hT⟩: ∃T,varN E.s R t p=T:=⟨_,rfl⟩
 rw [hT] at hne⊢
 unfold varN at hT
 have d0:punctT t ⟨#[123]⟩=false:=pk1 hk _
 have d1:punctT t ⟨#[59]⟩=false:=pk1 hk _
 have hk1w:(t.kind !=1)=false:=nf hk
 have hw0:(t.text.toList== [97,115,121,110,99])=false:=by rw [bt,ht];decide
 have hw1:(t.text.toList== [118,97,114])=true:=by rw [bt,ht];decide
 have hw2:(t.text.toList== [108,101,116])=false:=by rw [bt,ht];decide
 have hw3:(t.text.toList== [99,111,110,115,116])=false:=by rw [bt,ht];decide
 have hw4:(t.text.toList== [102,117,110,99,116,105,111,110])=false:=by rw [bt,ht];decide
 have hw5:(t.text.toList== [99,108,97,115,115])=false:=by rw [bt,ht];decide
 have hw6:(t.text.toList== [105,102])=false:=by rw [bt,ht];decide
 have hw7:(t.text.toList== [102,111,114])=false:=by rw [bt,ht];decide
 have hw8:(t.text.toList== [119,104,105,108,101])=false:=by rw [bt,ht];decide
 have hw9:(t.text.toList== [100,111])=false:=by rw [bt,ht];decide
 have hw10:(t.text.toList== [114,101,116,117,114,110])=false:=by rw [bt,ht];decide
 have hw11:(t.text.toList== [98,114,101,97,107])=false:=by rw [bt,ht];decide
 have hw12:(t.text.toList== [99,111,110,116,105,110,117,101])=false:=by rw [bt,ht];decide
 have hw13:(t.text.toList== [116,104,114,111,119])=false:=by rw [bt,ht];decide
 have hw14:(t.text.toList== [116,114,121])=false:=by rw [bt,ht];decide
 have hw15:(t.text.toList== [115,119,105,116,99,104])=false:=by rw [bt,ht];decide
 have hw16:(t.text.toList== [100,101,98,117,103,103,101,114])=false:=by rw [bt,ht];decide
 clear hk ht
 have HT:=hJ hT
 have HN:=hJ hne
 have HA:=Sa.start0 (X:=X0) h
 clear h hne hT
 go_enter Tryz.func42,Tryz.ntmps42
 go_wp2_with fail
 replace HA:=HA.out.pT (g:=w.heap.size) rfl t
 replace HA:=HA.out.pZ (g:=(w.heap.size+1)) (by simp)
 refine HA.out.stepQ (fun _ h=>P.punct t ⟨#[123]⟩ _) ?_
 clear HA
 intro w1 HA
 obtain⟨zr,zt,-⟩:=HA.out.fs
 have yr:=HA.out.fw 0 rfl
 go_wp2_with fail
 refine HA.out.stepQ (fun _ h=>P.punct t ⟨#[59]⟩ _) ?_
 clear zr zt yr HA
 intro w2 HA
 obtain⟨zr,zt,-⟩:=HA.out.fs
 have yr:=HA.out.fw 0 rfl
 go_wp2_with fail
 refine HA.out.stepV HT HN (fun _ h e=>P.take hR.ok h.s e) ?_ ?_
 ·intro _ _ _ H;go_wp2_with fail;exact⟨rfl,Ans.badh H⟩
 clear zr zt yr HT HA
 intro _ q3 w3 HT HA
 obtain⟨zr,zt,-⟩:=HA.out.fs
 have yr:=HA.out.fw 0 rfl
 go_wp2_with fail
 refine HA.out.stepN HT HN (fun _ h e=>hR.h (.declared t none) _ _ _ (.pointer none) rfl h.s e) ?_ ?_
 ·intro _ _ _ H;go_wp2_with fail;exact⟨rfl,Ans.badh H⟩
 clear zr zt yr HT HA
 intro n an cn q4 w4 HT HA
 obtain⟨zr,zt,-⟩:=HA.out.fs
 have yr:=HA.out.fw 0 rfl
 go_wp2_with fail
 replace HA:=HA.out.pN (g:=w4.heap.size) rfl n an cn
 refine HA.out.stepV HT HN (fun _ h e=>P.semicolon hR.ok h.s e) ?_ ?_
 ·intro _ _ _ H;go_wp2_with fail;exact⟨rfl,Ans.badh H⟩
 clear zr zt yr HT HA
 intro _ q5 w5 HT HA
 obtain⟨zn,zr,zt,-⟩:=HA.out.fs
 have yn:=HA.out.fw 0 rfl
 have yr:=HA.out.fw 1 rfl
 replace HT:=hget HT
 have cEat:=HA.out.c_at
 have lE:=HA.out.lt
 go_upto_region 22 with fail
 clear zn zr zt yn yr cEat lE
 replace HA:=HA.out.setc4 0 rfl (.int .i64 q5.at')
 dsimp only [ac8] at HA
 generalize World.setCell _ _ _=w6 at*
 obtain⟨m,hm⟩: ∃m,bd9 n q5.at'=m:=⟨_,rfl⟩
 have hm2:n.kind=m.kind∧n.text=m.text∧n.kids=m.kids∧n.from'=m.from'∧q5.at'=m.till:=by cases n;subst hm;exact⟨rfl,rfl,rfl,rfl,rfl⟩
 rw [hm] at HT
 obtain⟨h1,h2,h3,h4,h5⟩:=hm2
 rw [h1,h2,h3,h4,h5] at HA
 replace HA:=HA.out.re 0 rfl m h3.symm
 clear hm h1 h2 h3 h4 h5
 obtain⟨zn,zr,zt,-⟩:=HA.out.fs
 have yn:=HA.out.fw 0 rfl
 have yr:=HA.out.fw 1 rfl
 go_wp2_with fail
 exact HA.out.fin_nd (n:=m) (a:=an) (c:=cn) 1 0 rfl rfl rfl rfl rfl HT.out.symm
theorem S.snLet {E:PE} {R:(x:Fn)→PM x.Out} (hR:Env E R) {F:Nat→Prop} {w:World} {p:Ps} (t:Tk) (hk:t.kind=1) (ht:t.text=⟨#[108,101,116]⟩) (h:St E F w p) (hne:varN E.s R t p≠ .out):
  Calls Tryz.prog 42 #[.pointer (some ⟨E.b,0,none⟩),.agg #[.int .i64 t.kind,.string t.text,.int .i64 t.from',.int .i64 t.till,.bool t.line],.bool true] w (Ans E F X0 w (varN E.s R t p) fun n v w'=>IsP E F w' n v):=by
 obtain⟨T,hT⟩: ∃T,varN E.s R t p=T:=⟨_,rfl⟩
 rw [hT] at hne⊢
 unfold varN at hT
 have d0:punctT t ⟨#[123]⟩=false:=pk1 hk _
 have d1:punctT t ⟨#[59]⟩=false:=pk1 hk _
 have hk1w:(t.kind !=1)=false:=nf hk
 have hw0:(t.text.toList== [97,115,121,110,99])=false:=by rw [bt,ht];decide
 have hw1:(t.text.toList== [118,97,114])=false:=by rw [bt,ht];decide
 have hw2:(t.text.toList== [108,101,116])=true:=by rw [bt,ht];decide
 have hw3:(t.text.toList== [99,111,110,115,116])=false:=by rw [bt,ht];decide
 have hw4:(t.text.toList== [102,117,110,99,116,105,111,110])=false:=by rw [bt,ht];decide
 have hw5:(t.text.toList== [99,108,97,115,115])=false:=by rw [bt,ht];decide
 have hw6:(t.text.toList== [105,102])=false:=by rw [bt,ht];decide
 have hw7:(t.text.toList== [102,111,114])=false:=by rw [bt,ht];decide
 have hw8:(t.text.toList== [119,104,105,108,101])=false:=by rw [bt,ht];decide
 have hw9:(t.text.toList== [100,111])=false:=by rw [bt,ht];decide
 have hw10:(t.text.toList== [114,101,116,117,114,110])=false:=by rw [bt,ht];decide
 have hw11:(t.text.toList== [98,114,101,97,107])=false:=by rw [bt,ht];decide
 have hw12:(t.text.toList== [99,111,110,116,105,110,117,101])=false:=by rw [bt,ht];decide
 have hw13:(t.text.toList== [116,104,114,111,119])=false:=by rw [bt,ht];decide
 have hw14:(t.text.toList== [116,114,121])=false:=by rw [bt,ht];decide
 have hw15:(t.text.toList== [115,119,105,116,99,104])=false:=by rw [bt,ht];decide
 have hw16:(t.text.toList== [100,101,98,117,103,103,101,114])=false:=by rw [bt,ht];decide
 clear hk ht
 have HT:=hJ hT
 have HN:=hJ hne
 have HA:=Sa.start0 (X:=X0) h
 clear h hne hT
 go_enter Tryz.func42,Tryz.ntmps42
 go_wp2_with fail
 replace HA:=HA.out.pT (g:=w.heap.size) rfl t
 replace HA:=HA.out.pZ (g:=(w.heap.size+1)) (by simp)
 refine HA.out.stepQ (fun _ h=>P.punct t ⟨#[123]⟩ _) ?_
 clear HA
 intro w1 HA
 obtain⟨zr,zt,-⟩:=HA.out.fs
 have yr:=HA.out.fw 0 rfl
 go_wp2_with fail
 refine HA.out.stepQ (fun _ h=>P.punct t ⟨#[59]⟩ _) ?_
 clear zr zt yr HA
 intro w2 HA
 obtain⟨zr,zt,-⟩:=HA.out.fs
 have yr:=HA.out.fw 0 rfl
 go_wp2_with fail
 refine HA.out.stepV HT HN (fun _ h e=>P.take hR.ok h.s e) ?_ ?_
 ·intro _ _ _ H;go_wp2_with fail;exact⟨rfl,Ans.badh H⟩
 clear zr zt yr HT HA
 intro _ q3 w3 HT HA
 obtain⟨zr,zt,-⟩:=HA.out.fs
 have yr:=HA.out.fw 0 rfl
 go_wp2_with fail
 refine HA.out.stepN HT HN (fun _ h e=>hR.h (.declared t none) _ _ _ (.pointer none) rfl h.s e) ?_ ?_
 ·intro _ _ _ H;go_wp2_with fail;exact⟨rfl,Ans.badh H⟩
 clear zr zt yr HT HA
 intro n an cn q4 w4 HT HA
 obtain⟨zr,zt,-⟩:=HA.out.fs
 have yr:=HA.out.fw 0 rfl
 go_wp2_with fail
 replace HA:=HA.out.pN (g:=w4.heap.size) rfl n an cn
 refine HA.out.stepV HT HN (fun _ h e=>P.semicolon hR.ok h.s e) ?_ ?_
 ·intro _ _ _ H;go_wp2_with fail;exact⟨rfl,Ans.badh H⟩
 clear zr zt yr HT HA
 intro _ q5 w5 HT HA
 obtain⟨zn,zr,zt,-⟩:=HA.out.fs
 have yn:=HA.out.fw 0 rfl
 have yr:=HA.out.fw 1 rfl
 replace HT:=hget HT
 have cEat:=HA.out.c_at
 have lE:=HA.out.lt
 go_upto_region 22 with fail
 clear zn zr zt yn yr cEat lE
 replace HA:=HA.out.setc4 0 rfl (.int .i64 q5.at')
 dsimp only [ac8] at HA
 generalize World.setCell _ _ _=w6 at*
 obtain⟨m,hm⟩: ∃m,bd9 n q5.at'=m:=⟨_,rfl⟩
 have hm2:n.kind=m.kind∧n.text=m.text∧n.kids=m.kids∧n.from'=m.from'∧q5.at'=m.till:=by cases n;subst hm;exact⟨rfl,rfl,rfl,rfl,rfl⟩
 rw [hm] at HT
 obtain⟨h1,h2,h3,h4,h5⟩:=hm2
 rw [h1,h2,h3,h4,h5] at HA
 replace HA:=HA.out.re 0 rfl m h3.symm
 clear hm h1 h2 h3 h4 h5
 obtain⟨zn,zr,zt,-⟩:=HA.out.fs
 have yn:=HA.out.fw 0 rfl
 have yr:=HA.out.fw 1 rfl
 go_wp2_with fail
 exact HA.out.fin_nd (n:=m) (a:=an) (c:=cn) 1 0 rfl rfl rfl rfl rfl HT.out.symm
theorem S.snFunction {E:PE} {R:(x:Fn)→PM x.Out} (hR:Env E R) {F:Nat→Prop} {w:World} {p:Ps} (t:Tk) (hk:t.kind=1) (ht:t.text=⟨#[102,117,110,99,116,105,111,110]⟩) (h:St E F w p) (hne:R (.declaration true) p≠ .out):
  Calls Tryz.prog 42 #[.pointer (some ⟨E.b,0,none⟩),.agg #[.int .i64 t.kind,.string t.text,.int .i64 t.from',.int .i64 t.till,.bool t.line],.bool true] w (Ans E F X0 w (R (.declaration true) p) fun n v w'=>IsP E F w' n v):=by
 obtain⟨T,hT⟩: ∃T,R (.declaration true) p=T:=⟨_,rfl⟩
 rw [hT] at hne⊢
 have d0:punctT t ⟨#[123]⟩=false:=pk1 hk _
 have d1:punctT t ⟨#[59]⟩=false:=pk1 hk _
 have hk1w:(t.kind !=1)=false:=nf hk
 have hw0:(t.text.toList== [97,115,121,110,99])=false:=by rw [bt,ht];decide
 have hw1:(t.text.toList== [118,97,114])=false:=by rw [bt,ht];decide
 have hw2:(t.text.toList== [108,101,116])=false:=by rw [bt,ht];decide
 have hw3:(t.text.toList== [99,111,110,115,116])=false:=by rw [bt,ht];decide
 have hw4:(t.text.toList== [102,117,110,99,116,105,111,110])=true:=by rw [bt,ht];decide
 have hw5:(t.text.toList== [99,108,97,115,115])=false:=by rw [bt,ht];decide
 have hw6:(t.text.toList== [105,102])=false:=by rw [bt,ht];decide
 have hw7:(t.text.toList== [102,111,114])=false:=by rw [bt,ht];decide
 have hw8:(t.text.toList== [119,104,105,108,101])=false:=by rw [bt,ht];decide
 have hw9:(t.text.toList== [100,111])=false:=by rw [bt,ht];decide
 have hw10:(t.text.toList== [114,101,116,117,114,110])=false:=by rw [bt,ht];decide
 have hw11:(t.text.toList== [98,114,101,97,107])=false:=by rw [bt,ht];decide
 have hw12:(t.text.toList== [99,111,110,116,105,110,117,101])=false:=by rw [bt,ht];decide
 have hw13:(t.text.toList== [116,104,114,111,119])=false:=by rw [bt,ht];decide
 have hw14:(t.text.toList== [116,114,121])=false:=by rw [bt,ht];decide
 have hw15:(t.text.toList== [115,119,105,116,99,104])=false:=by rw [bt,ht];decide
 have hw16:(t.text.toList== [100,101,98,117,103,103,101,114])=false:=by rw [bt,ht];decide
 clear hk ht
 have HT:=hJ hT
 have HN:=hJ hne
 have HA:=Sa.start0 (X:=X0) h
 clear h hne hT
 go_enter Tryz.func42,Tryz.ntmps42
 go_wp2_with fail
 replace HA:=HA.out.pT (g:=w.heap.size) rfl t
 replace HA:=HA.out.pZ (g:=(w.heap.size+1)) (by simp)
 refine HA.out.stepQ (fun _ h=>P.punct t ⟨#[123]⟩ _) ?_
 clear HA
 intro w1 HA
 obtain⟨zr,zt,-⟩:=HA.out.fs
 have yr:=HA.out.fw 0 rfl
 go_wp2_with fail
 refine HA.out.stepQ (fun _ h=>P.punct t ⟨#[59]⟩ _) ?_
 clear zr zt yr HA
 intro w2 HA
 obtain⟨zr,zt,-⟩:=HA.out.fs
 have yr:=HA.out.fw 0 rfl
 go_wp2_with fail
 replace HT:=aa5 HT
 refine HA.out.stepN HT HN (fun _ h e=>hR.h (.declaration true) _ _ _ h.s e) ?_ ?_
 ·intro _ _ _ H;go_wp2_with fail;exact⟨rfl,Ans.badh H⟩
 clear zr zt yr HT HA
 intro z az cz q3 w3 HT HA
 obtain⟨zr,zt,-⟩:=HA.out.fs
 have yr:=HA.out.fw 0 rfl
 go_wp2_with fail
 exact HA.out.fin_nd 0 0 rfl rfl rfl rfl rfl HT.out.symm
theorem S.snClass {E:PE} {R:(x:Fn)→PM x.Out} (hR:Env E R) {F:Nat→Prop} {w:World} {p:Ps} (t:Tk) (hk:t.kind=1) (ht:t.text=⟨#[99,108,97,115,115]⟩) (h:St E F w p) (hne:R (.declaration true) p≠ .out):
  Calls Tryz.prog 42 #[.pointer (some ⟨E.b,0,none⟩),.agg #[.int .i64 t.kind,.string t.text,.int .i64 t.from',.int .i64 t.till,.bool t.line],.bool true] w (Ans E F X0 w (R (.declaration true) p) fun n v w'=>IsP E F w' n v):=by
 obtain⟨T,hT⟩: ∃T,R (.declaration true) p=T:=⟨_,rfl⟩
 rw [hT] at hne⊢
 have d0:punctT t ⟨#[123]⟩=false:=pk1 hk _
 have d1:punctT t ⟨#[59]⟩=false:=pk1 hk _
 have hk1w:(t.kind !=1)=false:=nf hk
 have hw0:(t.text.toList== [97,115,121,110,99])=false:=by rw [bt,ht];decide
 have hw1:(t.text.toList== [118,97,114])=false:=by rw [bt,ht];decide
 have hw2:(t.text.toList== [108,101,116])=false:=by rw [bt,ht];decide
 have hw3:(t.text.toList== [99,111,110,115,116])=false:=by rw [bt,ht];decide
 have hw4:(t.text.toList== [102,117,110,99,116,105,111,110])=false:=by rw [bt,ht];decide
 have hw5:(t.text.toList== [99,108,97,115,115])=true:=by rw [bt,ht];decide
 have hw6:(t.text.toList== [105,102])=false:=by rw [bt,ht];decide
 have hw7:(t.text.toList== [102,111,114])=false:=by rw [bt,ht];decide
 have hw8:(t.text.toList== [119,104,105,108,101])=false:=by rw [bt,ht];decide
 have hw9:(t.text.toList== [100,111])=false:=by rw [bt,ht];decide
 have hw10:(t.text.toList== [114,101,116,117,114,110])=false:=by rw [bt,ht];decide
 have hw11:(t.text.toList== [98,114,101,97,107])=false:=by rw [bt,ht];decide
 have hw12:(t.text.toList== [99,111,110,116,105,110,117,101])=false:=by rw [bt,ht];decide
 have hw13:(t.text.toList== [116,104,114,111,119])=false:=by rw [bt,ht];decide
 have hw14:(t.text.toList== [116,114,121])=false:=by rw [bt,ht];decide
 have hw15:(t.text.toList== [115,119,105,116,99,104])=false:=by rw [bt,ht];decide
 have hw16:(t.text.toList== [100,101,98,117,103,103,101,114])=false:=by rw [bt,ht];decide
 clear hk ht
 have HT:=hJ hT
 have HN:=hJ hne
 have HA:=Sa.start0 (X:=X0) h
 clear h hne hT
 go_enter Tryz.func42,Tryz.ntmps42
 go_wp2_with fail
 replace HA:=HA.out.pT (g:=w.heap.size) rfl t
 replace HA:=HA.out.pZ (g:=(w.heap.size+1)) (by simp)
 refine HA.out.stepQ (fun _ h=>P.punct t ⟨#[123]⟩ _) ?_
 clear HA
 intro w1 HA
 obtain⟨zr,zt,-⟩:=HA.out.fs
 have yr:=HA.out.fw 0 rfl
 go_wp2_with fail
 refine HA.out.stepQ (fun _ h=>P.punct t ⟨#[59]⟩ _) ?_
 clear zr zt yr HA
 intro w2 HA
 obtain⟨zr,zt,-⟩:=HA.out.fs
 have yr:=HA.out.fw 0 rfl
 go_wp2_with fail
 replace HT:=aa5 HT
 refine HA.out.stepN HT HN (fun _ h e=>hR.h (.declaration true) _ _ _ h.s e) ?_ ?_
 ·intro _ _ _ H;go_wp2_with fail;exact⟨rfl,Ans.badh H⟩
 clear zr zt yr HT HA
 intro z az cz q3 w3 HT HA
 obtain⟨zr,zt,-⟩:=HA.out.fs
 have yr:=HA.out.fw 0 rfl
 go_wp2_with fail
 exact HA.out.fin_nd 0 0 rfl rfl rfl rfl rfl HT.out.symm
theorem S.snIf {E:PE} {R:(x:Fn)→PM x.Out} (hR:Env E R) {F:Nat→Prop} {w:World} {p:Ps} (t:Tk) (hk:t.kind=1) (ht:t.text=⟨#[105,102]⟩) (h:St E F w p) (hne:R (.branch t) p≠ .out):
  Calls Tryz.prog 42 #[.pointer (some ⟨E.b,0,none⟩),.agg #[.int .i64 t.kind,.string t.text,.int .i64 t.from',.int .i64 t.till,.bool t.line],.bool true] w (Ans E F X0 w (R (.branch t) p) fun n v w'=>IsP E F w' n v):=by
 obtain⟨T,hT⟩: ∃T,R (.branch t) p=T:=⟨_,rfl⟩
 rw [hT] at hne⊢
 have d0:punctT t ⟨#[123]⟩=false:=pk1 hk _
 have d1:punctT t ⟨#[59]⟩=false:=pk1 hk _
 have hk1w:(t.kind !=1)=false:=nf hk
 have hw0:(t.text.toList== [97,115,121,110,99])=false:=by rw [bt,ht];decide
 have hw1:(t.text.toList== [118,97,114])=false:=by rw [bt,ht];decide
 have hw2:(t.text.toList== [108,101,116])=false:=by rw [bt,ht];decide
 have hw3:(t.text.toList== [99,111,110,115,116])=false:=by rw [bt,ht];decide
 have hw4:(t.text.toList== [102,117,110,99,116,105,111,110])=false:=by rw [bt,ht];decide
 have hw5:(t.text.toList== [99,108,97,115,115])=false:=by rw [bt,ht];decide
 have hw6:(t.text.toList== [105,102])=true:=by rw [bt,ht];decide
 have hw7:(t.text.toList== [102,111,114])=false:=by rw [bt,ht];decide
 have hw8:(t.text.toList== [119,104,105,108,101])=false:=by rw [bt,ht];decide
 have hw9:(t.text.toList== [100,111])=false:=by rw [bt,ht];decide
 have hw10:(t.text.toList== [114,101,116,117,114,110])=false:=by rw [bt,ht];decide
 have hw11:(t.text.toList== [98,114,101,97,107])=false:=by rw [bt,ht];decide
 have hw12:(t.text.toList== [99,111,110,116,105,110,117,101])=false:=by rw [bt,ht];decide
 have hw13:(t.text.toList== [116,104,114,111,119])=false:=by rw [bt,ht];decide
 have hw14:(t.text.toList== [116,114,121])=false:=by rw [bt,ht];decide
 have hw15:(t.text.toList== [115,119,105,116,99,104])=false:=by rw [bt,ht];decide
 have hw16:(t.text.toList== [100,101,98,117,103,103,101,114])=false:=by rw [bt,ht];decide
 clear hk ht
 have HT:=hJ hT
 have HN:=hJ hne
 have HA:=Sa.start0 (X:=X0) h
 clear h hne hT
 go_enter Tryz.func42,Tryz.ntmps42
 go_wp2_with fail
 replace HA:=HA.out.pT (g:=w.heap.size) rfl t
 replace HA:=HA.out.pZ (g:=(w.heap.size+1)) (by simp)
 refine HA.out.stepQ (fun _ h=>P.punct t ⟨#[123]⟩ _) ?_
 clear HA
 intro w1 HA
 obtain⟨zr,zt,-⟩:=HA.out.fs
 have yr:=HA.out.fw 0 rfl
 go_wp2_with fail
 refine HA.out.stepQ (fun _ h=>P.punct t ⟨#[59]⟩ _) ?_
 clear zr zt yr HA
 intro w2 HA
 obtain⟨zr,zt,-⟩:=HA.out.fs
 have yr:=HA.out.fw 0 rfl
 go_wp2_with fail
 replace HT:=aa5 HT
 refine HA.out.stepN HT HN (fun _ h e=>hR.h (.branch t) _ _ _ h.s e) ?_ ?_
 ·intro _ _ _ H;go_wp2_with fail;exact⟨rfl,Ans.badh H⟩
 clear zr zt yr HT HA
 intro z az cz q3 w3 HT HA
 obtain⟨zr,zt,-⟩:=HA.out.fs
 have yr:=HA.out.fw 0 rfl
 go_wp2_with fail
 exact HA.out.fin_nd 0 0 rfl rfl rfl rfl rfl HT.out.symm
theorem S.snWhile {E:PE} {R:(x:Fn)→PM x.Out} (hR:Env E R) {F:Nat→Prop} {w:World} {p:Ps} (t:Tk) (hk:t.kind=1) (ht:t.text=⟨#[119,104,105,108,101]⟩) (h:St E F w p) (hne:aB4 R t p≠ .out):
  Calls Tryz.prog 42 #[.pointer (some ⟨E.b,0,none⟩),.agg #[.int .i64 t.kind,.string t.text,.int .i64 t.from',.int .i64 t.till,.bool t.line],.bool true] w (Ans E F X0 w (aB4 R t p) fun n v w'=>IsP E F w' n v):=by
 obtain⟨T,hT⟩: ∃T,aB4 R t p=T:=⟨_,rfl⟩
 rw [hT] at hne⊢
 unfold aB4 at hT
 have d0:punctT t ⟨#[123]⟩=false:=pk1 hk _
 have d1:punctT t ⟨#[59]⟩=false:=pk1 hk _
 have hk1w:(t.kind !=1)=false:=nf hk
 have hw0:(t.text.toList== [97,115,121,110,99])=false:=by rw [bt,ht];decide
 have hw1:(t.text.toList== [118,97,114])=false:=by rw [bt,ht];decide
 have hw2:(t.text.toList== [108,101,116])=false:=by rw [bt,ht];decide
 have hw3:(t.text.toList== [99,111,110,115,116])=false:=by rw [bt,ht];decide
 have hw4:(t.text.toList== [102,117,110,99,116,105,111,110])=false:=by rw [bt,ht];decide
 have hw5:(t.text.toList== [99,108,97,115,115])=false:=by rw [bt,ht];decide
 have hw6:(t.text.toList== [105,102])=false:=by rw [bt,ht];decide
 have hw7:(t.text.toList== [102,111,114])=false:=by rw [bt,ht];decide
 have hw8:(t.text.toList== [119,104,105,108,101])=true:=by rw [bt,ht];decide
 have hw9:(t.text.toList== [100,111])=false:=by rw [bt,ht];decide
 have hw10:(t.text.toList== [114,101,116,117,114,110])=false:=by rw [bt,ht];decide
 have hw11:(t.text.toList== [98,114,101,97,107])=false:=by rw [bt,ht];decide
 have hw12:(t.text.toList== [99,111,110,116,105,110,117,101])=false:=by rw [bt,ht];decide
 have hw13:(t.text.toList== [116,104,114,111,119])=false:=by rw [bt,ht];decide
 have hw14:(t.text.toList== [116,114,121])=false:=by rw [bt,ht];decide
 have hw15:(t.text.toList== [115,119,105,116,99,104])=false:=by rw [bt,ht];decide
 have hw16:(t.text.toList== [100,101,98,117,103,103,101,114])=false:=by rw [bt,ht];decide
 clear hk ht
 have HT:=hJ hT
 have HN:=hJ hne
 have HA:=Sa.start0 (X:=X0) h
 clear h hne hT
 go_enter Tryz.func42,Tryz.ntmps42
 go_wp2_with fail
 replace HA:=HA.out.pT (g:=w.heap.size) rfl t
 replace HA:=HA.out.pZ (g:=(w.heap.size+1)) (by simp)
 refine HA.out.stepQ (fun _ h=>P.punct t ⟨#[123]⟩ _) ?_
 clear HA
 intro w1 HA
 obtain⟨zr,zt,-⟩:=HA.out.fs
 have yr:=HA.out.fw 0 rfl
 go_wp2_with fail
 refine HA.out.stepQ (fun _ h=>P.punct t ⟨#[59]⟩ _) ?_
 clear zr zt yr HA
 intro w2 HA
 obtain⟨zr,zt,-⟩:=HA.out.fs
 have yr:=HA.out.fw 0 rfl
 go_wp2_with fail
 refine HA.out.stepV HT HN (fun _ h e=>P.take hR.ok h.s e) ?_ ?_
 ·intro _ _ _ H;go_wp2_with fail;exact⟨rfl,Ans.badh H⟩
 clear zr zt yr HT HA
 intro _ q3 w3 HT HA
 obtain⟨zr,zt,-⟩:=HA.out.fs
 have yr:=HA.out.fw 0 rfl
 go_wp2_with fail
 refine HA.out.stepN HT HN (fun _ h e=>hR.h .head _ _ _ h.s e) ?_ ?_
 ·intro _ _ _ H;go_wp2_with fail;exact⟨rfl,Ans.badh H⟩
 clear zr zt yr HT HA
 intro x ax cx q4 w4 HT HA
 obtain⟨zr,zt,-⟩:=HA.out.fs
 have yr:=HA.out.fw 0 rfl
 go_wp2_with fail
 replace HA:=HA.out.pN (g:=w4.heap.size) rfl x ax cx
 refine HA.out.stepN HT HN (fun _ h e=>hR.h .alone _ _ _ h.s e) ?_ ?_
 ·intro _ _ _ H;go_wp2_with fail;exact⟨rfl,Ans.badh H⟩
 clear zr zt yr HT HA
 intro y ay cy q5 w5 HT HA
 obtain⟨zx,zr,zt,-⟩:=HA.out.fs
 have yr:=HA.out.fw 1 rfl
 replace HT:=aa5 HT
 go_wp2_with fail
 replace HA:=HA.out.pN (g:=w5.heap.size) rfl y ay cy
 refine HA.out.node 66 ⟨#[]⟩ t.from' [(x,ax,cx),(y,ay,cy)] (by simp) rfl (by simp) rfl rfl HT ?_
 clear zx zr zt yr HT HA
 intro k ak ck w6 _ HT HA
 obtain⟨zy,zx,zr,zt,-⟩:=HA.out.fs
 have yr:=HA.out.fw 2 rfl
 go_wp2_with fail
 exact HA.out.fin_nd 2 0 rfl rfl rfl rfl rfl HT.out.symm
theorem S.snDo {E:PE} {R:(x:Fn)→PM x.Out} (hR:Env E R) {F:Nat→Prop} {w:World} {p:Ps} (t:Tk) (hk:t.kind=1) (ht:t.text=⟨#[100,111]⟩) (h:St E F w p) (hne:doN E.s R t p≠ .out):
  Calls Tryz.prog 42 #[.pointer (some ⟨E.b,0,none⟩),.agg #[.int .i64 t.kind,.string t.text,.int .i64 t.from',.int .i64 t.till,.bool t.line],.bool true] w (Ans E F X0 w (doN E.s R t p) fun n v w'=>IsP E F w' n v):=by
 obtain⟨T,hT⟩: ∃T,doN E.s R t p=T:=⟨_,rfl⟩
 rw [hT] at hne⊢
 unfold doN at hT
 have d0:punctT t ⟨#[123]⟩=false:=pk1 hk _
 have d1:punctT t ⟨#[59]⟩=false:=pk1 hk _
 have hk1w:(t.kind !=1)=false:=nf hk
 have hw0:(t.text.toList== [97,115,121,110,99])=false:=by rw [bt,ht];decide
 have hw1:(t.text.toList== [118,97,114])=false:=by rw [bt,ht];decide
 have hw2:(t.text.toList== [108,101,116])=false:=by rw [bt,ht];decide
 have hw3:(t.text.toList== [99,111,110,115,116])=false:=by rw [bt,ht];decide
 have hw4:(t.text.toList== [102,117,110,99,116,105,111,110])=false:=by rw [bt,ht];decide
 have hw5:(t.text.toList== [99,108,97,115,115])=false:=by rw [bt,ht];decide
 have hw6:(t.text.toList== [105,102])=false:=by rw [bt,ht];decide
 have hw7:(t.text.toList== [102,111,114])=false:=by rw [bt,ht];decide
 have hw8:(t.text.toList== [119,104,105,108,101])=false:=by rw [bt,ht];decide
 have hw9:(t.text.toList== [100,111])=true:=by rw [bt,ht];decide
 have hw10:(t.text.toList== [114,101,116,117,114,110])=false:=by rw [bt,ht];decide
 have hw11:(t.text.toList== [98,114,101,97,107])=false:=by rw [bt,ht];decide
 have hw12:(t.text.toList== [99,111,110,116,105,110,117,101])=false:=by rw [bt,ht];decide
 have hw13:(t.text.toList== [116,104,114,111,119])=false:=by rw [bt,ht];decide
 have hw14:(t.text.toList== [116,114,121])=false:=by rw [bt,ht];decide
 have hw15:(t.text.toList== [115,119,105,116,99,104])=false:=by rw [bt,ht];decide
 have hw16:(t.text.toList== [100,101,98,117,103,103,101,114])=false:=by rw [bt,ht];decide
 clear hk ht
 have HT:=hJ hT
 have HN:=hJ hne
 have HA:=Sa.start0 (X:=X0) h
 clear h hne hT
 go_enter Tryz.func42,Tryz.ntmps42
 go_wp2_with fail
 replace HA:=HA.out.pT (g:=w.heap.size) rfl t
 replace HA:=HA.out.pZ (g:=(w.heap.size+1)) (by simp)
 refine HA.out.stepQ (fun _ h=>P.punct t ⟨#[123]⟩ _) ?_
 clear HA
 intro w1 HA
 obtain⟨zr,zt,-⟩:=HA.out.fs
 have yr:=HA.out.fw 0 rfl
 go_wp2_with fail
 refine HA.out.stepQ (fun _ h=>P.punct t ⟨#[59]⟩ _) ?_
 clear zr zt yr HA
 intro w2 HA
 obtain⟨zr,zt,-⟩:=HA.out.fs
 have yr:=HA.out.fw 0 rfl
 go_wp2_with fail
 refine HA.out.stepV HT HN (fun _ h e=>P.take hR.ok h.s e) ?_ ?_
 ·intro _ _ _ H;go_wp2_with fail;exact⟨rfl,Ans.badh H⟩
 clear zr zt yr HT HA
 intro _ q3 w3 HT HA
 obtain⟨zr,zt,-⟩:=HA.out.fs
 have yr:=HA.out.fw 0 rfl
 go_wp2_with fail
 refine HA.out.stepN HT HN (fun _ h e=>hR.h .alone _ _ _ h.s e) ?_ ?_
 ·intro _ _ _ H;go_wp2_with fail;exact⟨rfl,Ans.badh H⟩
 clear zr zt yr HT HA
 intro y ay cy q4 w4 HT HA
 obtain⟨zr,zt,-⟩:=HA.out.fs
 have yr:=HA.out.fw 0 rfl
 go_wp2_with fail
 replace HA:=HA.out.pN (g:=w4.heap.size) rfl y ay cy
 refine HA.out.stepV HT HN (fun _ h e=>P.peek hR.ok 2 h.s e) ?_ ?_
 ·intro _ _ _ H;go_wp2_with fail;exact⟨rfl,Ans.badh H⟩
 clear zr zt yr HT HA
 intro _ q5 w5 HT HA
 obtain⟨zy,zr,zt,-⟩:=HA.out.fs
 have yr:=HA.out.fw 1 rfl
 go_wp2_with fail
 refine HA.out.stepV HT HN (fun _ h e=>P.must hR.ok ⟨#[119,104,105,108,101]⟩ h.s e) ?_ ?_
 ·intro _ _ _ H;go_wp2_with fail;exact⟨rfl,Ans.badh H⟩
 clear zy zr zt yr HT HA
 intro _ q6 w6 HT HA
 obtain⟨zy,zr,zt,-⟩:=HA.out.fs
 have yr:=HA.out.fw 1 rfl
 go_wp2_with fail
 refine HA.out.stepN HT HN (fun _ h e=>hR.h .head _ _ _ h.s e) ?_ ?_
 ·intro _ _ _ H;go_wp2_with fail;exact⟨rfl,Ans.badh H⟩
 clear zy zr zt yr HT HA
 intro x ax cx q7 w7 HT HA
 obtain⟨zy,zr,zt,-⟩:=HA.out.fs
 have yr:=HA.out.fw 1 rfl
 go_wp2_with fail
 replace HA:=HA.out.pN (g:=w7.heap.size) rfl x ax cx
 refine HA.out.stepV HT HN (fun _ h e=>P.peek hR.ok 2 h.s e) ?_ ?_
 ·intro _ _ _ H;go_wp2_with fail;exact⟨rfl,Ans.badh H⟩
 clear zy zr zt yr HT HA
 intro u q8 w8 HT HA
 obtain⟨zx,zy,zr,zt,-⟩:=HA.out.fs
 have yr:=HA.out.fw 2 rfl
 go_wp2_with fail
 refine HA.out.stepQ (fun _ h=>P.punct u ⟨#[59]⟩ _) ?_
 clear zx zy zr zt yr HA
 intro w9 HA
 obtain⟨zx,zy,zr,zt,-⟩:=HA.out.fs
 have yr:=HA.out.fw 2 rfl
 cases hc:punctT u ⟨#[59]⟩ with
 |true=>
  replace HT:=hpos HT (by rw [hc])
  go_wp2_with fail
  refine HA.out.stepV HT HN (fun _ h e=>P.take hR.ok h.s e) ?_ ?_
  ·intro _ _ _ H;go_wp2_with fail;exact⟨rfl,Ans.badh H⟩
  clear zx zy zr zt yr HT HA
  intro _ q10 w10 HT HA
  obtain⟨zx,zy,zr,zt,-⟩:=HA.out.fs
  have yr:=HA.out.fw 2 rfl
  replace HT:=aa5 HT
  go_wp2_with fail
  refine HA.out.node 67 ⟨#[]⟩ t.from' [(y,ay,cy),(x,ax,cx)] (by simp) rfl rfl rfl rfl HT ?_
  clear zx zy zr zt yr HT HA
  intro k ak ck w11 _ HT HA
  obtain⟨zx,zy,zr,zt,-⟩:=HA.out.fs
  have yr:=HA.out.fw 2 rfl
  go_wp2_with fail
  exact HA.out.fin_nd 2 0 rfl rfl rfl rfl rfl HT.out.symm
 |false=>
  replace HT:=hneg HT (by rw [hc];decide)
  replace HT:=aa5 HT
  go_wp2_with fail
  refine HA.out.node 67 ⟨#[]⟩ t.from' [(y,ay,cy),(x,ax,cx)] (by simp) rfl rfl rfl rfl HT ?_
  clear zx zy zr zt yr HT HA
  intro k ak ck w10 _ HT HA
  obtain⟨zx,zy,zr,zt,-⟩:=HA.out.fs
  have yr:=HA.out.fw 2 rfl
  go_wp2_with fail
  exact HA.out.fin_nd 2 0 rfl rfl rfl rfl rfl HT.out.symm
theorem S.snThrow {E:PE} {R:(x:Fn)→PM x.Out} (hR:Env E R) {F:Nat→Prop} {w:World} {p:Ps} (t:Tk) (hk:t.kind=1) (ht:t.text=⟨#[116,104,114,111,119]⟩) (h:St E F w p) (hne:aB3 E.s R t p≠ .out):
  Calls Tryz.prog 42 #[.pointer (some ⟨E.b,0,none⟩),.agg #[.int .i64 t.kind,.string t.text,.int .i64 t.from',.int .i64 t.till,.bool t.line],.bool true] w (Ans E F X0 w (aB3 E.s R t p) fun n v w'=>IsP E F w' n v):=by
 obtain⟨T,hT⟩: ∃T,aB3 E.s R t p=T:=⟨_,rfl⟩
 rw [hT] at hne⊢
 unfold aB3 at hT
 have d0:punctT t ⟨#[123]⟩=false:=pk1 hk _
 have d1:punctT t ⟨#[59]⟩=false:=pk1 hk _
 have hk1w:(t.kind !=1)=false:=nf hk
 have hw0:(t.text.toList== [97,115,121,110,99])=false:=by rw [bt,ht];decide
 have hw1:(t.text.toList== [118,97,114])=false:=by rw [bt,ht];decide
 have hw2:(t.text.toList== [108,101,116])=false:=by rw [bt,ht];decide
 have hw3:(t.text.toList== [99,111,110,115,116])=false:=by rw [bt,ht];decide
 have hw4:(t.text.toList== [102,117,110,99,116,105,111,110])=false:=by rw [bt,ht];decide
 have hw5:(t.text.toList== [99,108,97,115,115])=false:=by rw [bt,ht];decide
 have hw6:(t.text.toList== [105,102])=false:=by rw [bt,ht];decide
 have hw7:(t.text.toList== [102,111,114])=false:=by rw [bt,ht];decide
 have hw8:(t.text.toList== [119,104,105,108,101])=false:=by rw [bt,ht];decide
 have hw9:(t.text.toList== [100,111])=false:=by rw [bt,ht];decide
 have hw10:(t.text.toList== [114,101,116,117,114,110])=false:=by rw [bt,ht];decide
 have hw11:(t.text.toList== [98,114,101,97,107])=false:=by rw [bt,ht];decide
 have hw12:(t.text.toList== [99,111,110,116,105,110,117,101])=false:=by rw [bt,ht];decide
 have hw13:(t.text.toList== [116,104,114,111,119])=true:=by rw [bt,ht];decide
 have hw14:(t.text.toList== [116,114,121])=false:=by rw [bt,ht];decide
 have hw15:(t.text.toList== [115,119,105,116,99,104])=false:=by rw [bt,ht];decide
 have hw16:(t.text.toList== [100,101,98,117,103,103,101,114])=false:=by rw [bt,ht];decide
 clear hk ht
 have HT:=hJ hT
 have HN:=hJ hne
 have HA:=Sa.start0 (X:=X0) h
 clear h hne hT
 go_enter Tryz.func42,Tryz.ntmps42
 go_wp2_with fail
 replace HA:=HA.out.pT (g:=w.heap.size) rfl t
 replace HA:=HA.out.pZ (g:=(w.heap.size+1)) (by simp)
 refine HA.out.stepQ (fun _ h=>P.punct t ⟨#[123]⟩ _) ?_
 clear HA
 intro w1 HA
 obtain⟨zr,zt,-⟩:=HA.out.fs
 have yr:=HA.out.fw 0 rfl
 go_wp2_with fail
 refine HA.out.stepQ (fun _ h=>P.punct t ⟨#[59]⟩ _) ?_
 clear zr zt yr HA
 intro w2 HA
 obtain⟨zr,zt,-⟩:=HA.out.fs
 have yr:=HA.out.fw 0 rfl
 go_wp2_with fail
 refine HA.out.stepV HT HN (fun _ h e=>P.take hR.ok h.s e) ?_ ?_
 ·intro _ _ _ H;go_wp2_with fail;exact⟨rfl,Ans.badh H⟩
 clear zr zt yr HT HA
 intro _ q3 w3 HT HA
 obtain⟨zr,zt,-⟩:=HA.out.fs
 have yr:=HA.out.fw 0 rfl
 go_wp2_with fail
 refine HA.out.stepV HT HN (fun _ h e=>P.peek hR.ok 2 h.s e) ?_ ?_
 ·intro _ _ _ H;go_wp2_with fail;exact⟨rfl,Ans.badh H⟩
 clear zr zt yr HT HA
 intro u q4 w4 HT HA
 obtain⟨zr,zt,-⟩:=HA.out.fs
 have yr:=HA.out.fw 0 rfl
 cases hl:u.line with
 |true=>
  replace HT:=hpos HT (by exact hl)
  go_wp2_with fail
  have H:=HA.out.bad HT.out.symm
  refine HA.out.odd ?_
  go_wp2_with fail
  exact⟨rfl,Ans.badh H⟩
 |false=>
  replace HT:=hneg HT (by rw [hl];decide)
  go_wp2_with fail
  refine HA.out.stepN HT HN (fun _ h e=>hR.h .expression _ _ _ h.s e) ?_ ?_
  ·intro _ _ _ H;go_wp2_with fail;exact⟨rfl,Ans.badh H⟩
  clear zr zt yr HT HA
  intro x ax cx q5 w5 HT HA
  obtain⟨zr,zt,-⟩:=HA.out.fs
  have yr:=HA.out.fw 0 rfl
  go_wp2_with fail
  replace HA:=HA.out.pN (g:=w5.heap.size) rfl x ax cx
  refine HA.out.stepV HT HN (fun _ h e=>P.semicolon hR.ok h.s e) ?_ ?_
  ·intro _ _ _ H;go_wp2_with fail;exact⟨rfl,Ans.badh H⟩
  clear zr zt yr HT HA
  intro _ q6 w6 HT HA
  obtain⟨zx,zr,zt,-⟩:=HA.out.fs
  have yr:=HA.out.fw 1 rfl
  go_wp2_with fail
  refine HA.out.node 71 ⟨#[]⟩ t.from' [(x,ax,cx)] (by simp) rfl rfl rfl rfl HT ?_
  clear zx zr zt yr HT HA
  intro k ak ck w7 _ HT HA
  obtain⟨zx,zr,zt,-⟩:=HA.out.fs
  have yr:=HA.out.fw 1 rfl
  go_wp2_with fail
  exact HA.out.fin_nd 1 0 rfl rfl rfl rfl rfl HT.out.symm
theorem S.snDebugger {E:PE} {R:(x:Fn)→PM x.Out} (hR:Env E R) {F:Nat→Prop} {w:World} {p:Ps} (t:Tk) (hk:t.kind=1) (ht:t.text=⟨#[100,101,98,117,103,103,101,114]⟩) (h:St E F w p) (hne:al6 E.s t p≠ .out):
  Calls Tryz.prog 42 #[.pointer (some ⟨E.b,0,none⟩),.agg #[.int .i64 t.kind,.string t.text,.int .i64 t.from',.int .i64 t.till,.bool t.line],.bool true] w (Ans E F X0 w (al6 E.s t p) fun n v w'=>IsP E F w' n v):=by
 obtain⟨T,hT⟩: ∃T,al6 E.s t p=T:=⟨_,rfl⟩
 rw [hT] at hne⊢
 unfold al6 at hT
 have d0:punctT t ⟨#[123]⟩=false:=pk1 hk _
 have d1:punctT t ⟨#[59]⟩=false:=pk1 hk _
 have hk1w:(t.kind !=1)=false:=nf hk
 have hw0:(t.text.toList== [97,115,121,110,99])=false:=by rw [bt,ht];decide
 have hw1:(t.text.toList== [118,97,114])=false:=by rw [bt,ht];decide
 have hw2:(t.text.toList== [108,101,116])=false:=by rw [bt,ht];decide
 have hw3:(t.text.toList== [99,111,110,115,116])=false:=by rw [bt,ht];decide
 have hw4:(t.text.toList== [102,117,110,99,116,105,111,110])=false:=by rw [bt,ht];decide
 have hw5:(t.text.toList== [99,108,97,115,115])=false:=by rw [bt,ht];decide
 have hw6:(t.text.toList== [105,102])=false:=by rw [bt,ht];decide
 have hw7:(t.text.toList== [102,111,114])=false:=by rw [bt,ht];decide
 have hw8:(t.text.toList== [119,104,105,108,101])=false:=by rw [bt,ht];decide
 have hw9:(t.text.toList== [100,111])=false:=by rw [bt,ht];decide
 have hw10:(t.text.toList== [114,101,116,117,114,110])=false:=by rw [bt,ht];decide
 have hw11:(t.text.toList== [98,114,101,97,107])=false:=by rw [bt,ht];decide
 have hw12:(t.text.toList== [99,111,110,116,105,110,117,101])=false:=by rw [bt,ht];decide
 have hw13:(t.text.toList== [116,104,114,111,119])=false:=by rw [bt,ht];decide
 have hw14:(t.text.toList== [116,114,121])=false:=by rw [bt,ht];decide
 have hw15:(t.text.toList== [115,119,105,116,99,104])=false:=by rw [bt,ht];decide
 have hw16:(t.text.toList== [100,101,98,117,103,103,101,114])=true:=by rw [bt,ht];decide
 clear hk ht
 have HT:=hJ hT
 have HN:=hJ hne
 have HA:=Sa.start0 (X:=X0) h
 clear h hne hT
 go_enter Tryz.func42,Tryz.ntmps42
 go_wp2_with fail
 replace HA:=HA.out.pT (g:=w.heap.size) rfl t
 replace HA:=HA.out.pZ (g:=(w.heap.size+1)) (by simp)
 refine HA.out.stepQ (fun _ h=>P.punct t ⟨#[123]⟩ _) ?_
 clear HA
 intro w1 HA
 obtain⟨zr,zt,-⟩:=HA.out.fs
 have yr:=HA.out.fw 0 rfl
 go_wp2_with fail
 refine HA.out.stepQ (fun _ h=>P.punct t ⟨#[59]⟩ _) ?_
 clear zr zt yr HA
 intro w2 HA
 obtain⟨zr,zt,-⟩:=HA.out.fs
 have yr:=HA.out.fw 0 rfl
 go_wp2_with fail
 refine HA.out.stepV HT HN (fun _ h e=>P.take hR.ok h.s e) ?_ ?_
 ·intro _ _ _ H;go_wp2_with fail;exact⟨rfl,Ans.badh H⟩
 clear zr zt yr HT HA
 intro _ q3 w3 HT HA
 obtain⟨zr,zt,-⟩:=HA.out.fs
 have yr:=HA.out.fw 0 rfl
 go_wp2_with fail
 refine HA.out.stepV HT HN (fun _ h e=>P.semicolon hR.ok h.s e) ?_ ?_
 ·intro _ _ _ H;go_wp2_with fail;exact⟨rfl,Ans.badh H⟩
 clear zr zt yr HT HA
 intro _ q4 w4 HT HA
 obtain⟨zr,zt,-⟩:=HA.out.fs
 have yr:=HA.out.fw 0 rfl
 replace HT:=aa5 HT
 go_wp2_with fail
 refine HA.out.node0 77 ⟨#[]⟩ t.from' HT ?_
 clear zr zt yr HT HA
 intro k ak ck w5 _ HT HA
 obtain⟨zr,zt,-⟩:=HA.out.fs
 have yr:=HA.out.fw 0 rfl
 go_wp2_with fail
 exact HA.out.fin_nd 0 0 rfl rfl rfl rfl rfl HT.out.symm
theorem S.snAlone {E:PE} {R:(x:Fn)→PM x.Out} (hR:Env E R) {F:Nat→Prop} {w:World} {p:Ps} (t:Tk) (h:St E F w p) (hne:aH9 E.s E.m R t p≠ .out):
  Calls Tryz.prog 42 #[.pointer (some ⟨E.b,0,none⟩),.agg #[.int .i64 t.kind,.string t.text,.int .i64 t.from',.int .i64 t.till,.bool t.line],.bool false] w (Ans E F X0 w (aH9 E.s E.m R t p) fun n v w'=>IsP E F w' n v):=by
 obtain⟨T,hT⟩: ∃T,aH9 E.s E.m R t p=T:=⟨_,rfl⟩
 rw [hT] at hne⊢
 unfold aH9 at hT
 have HT:=hJ hT
 have HN:=hJ hne
 have HA:=Sa.start0 (X:=X0) h
 clear h hne hT
 by_cases hx:t.kind≠1∨ag1 t.text kwW=true
 ·replace HT:=hpos HT hx
  exact absurd HT.out.symm HN.out
 replace HT:=hneg HT hx
 have hk:t.kind=1:=Decidable.byContradiction fun h=>hx (.inl h)
 have ho:ag1 t.text kwW=false:=by simpa using fun h=>hx (.inr h)
 have d0:punctT t ⟨#[123]⟩=false:=pk1 hk _
 have d1:punctT t ⟨#[59]⟩=false:=pk1 hk _
 have hk1w:(t.kind !=1)=false:=nf hk
 have hno:=bz3 ho
 have hwd:=bL9 ho
 clear hx ho hk
 have hw0:(t.text.toList== [97,115,121,110,99])=false:=by rw [bt];exact decide_eq_false (hno _ (by unfold kwW;simp))
 have hw1:(t.text.toList== [118,97,114])=false:=by rw [bt];exact decide_eq_false (hno _ (by unfold kwW;simp))
 have hw2:(t.text.toList== [108,101,116])=false:=by rw [bt];exact decide_eq_false (hno _ (by unfold kwW;simp))
 have hw3:(t.text.toList== [99,111,110,115,116])=false:=by rw [bt];exact decide_eq_false (hno _ (by unfold kwW;simp))
 have hw4:(t.text.toList== [102,117,110,99,116,105,111,110])=false:=by rw [bt];exact decide_eq_false (hno _ (by unfold kwW;simp))
 have hw5:(t.text.toList== [99,108,97,115,115])=false:=by rw [bt];exact decide_eq_false (hno _ (by unfold kwW;simp))
 have hw6:(t.text.toList== [105,102])=false:=by rw [bt];exact decide_eq_false (hno _ (by unfold kwW;simp))
 have hw7:(t.text.toList== [102,111,114])=false:=by rw [bt];exact decide_eq_false (hno _ (by unfold kwW;simp))
 have hw8:(t.text.toList== [119,104,105,108,101])=false:=by rw [bt];exact decide_eq_false (hno _ (by unfold kwW;simp))
 have hw9:(t.text.toList== [100,111])=false:=by rw [bt];exact decide_eq_false (hno _ (by unfold kwW;simp))
 have hw10:(t.text.toList== [114,101,116,117,114,110])=false:=by rw [bt];exact decide_eq_false (hno _ (by unfold kwW;simp))
 have hw11:(t.text.toList== [98,114,101,97,107])=false:=by rw [bt];exact decide_eq_false (hno _ (by unfold kwW;simp))
 have hw12:(t.text.toList== [99,111,110,116,105,110,117,101])=false:=by rw [bt];exact decide_eq_false (hno _ (by unfold kwW;simp))
 have hw13:(t.text.toList== [116,104,114,111,119])=false:=by rw [bt];exact decide_eq_false (hno _ (by unfold kwW;simp))
 have hw14:(t.text.toList== [116,114,121])=false:=by rw [bt];exact decide_eq_false (hno _ (by unfold kwW;simp))
 have hw15:(t.text.toList== [115,119,105,116,99,104])=false:=by rw [bt];exact decide_eq_false (hno _ (by unfold kwW;simp))
 have hw16:(t.text.toList== [100,101,98,117,103,103,101,114])=false:=by rw [bt];exact decide_eq_false (hno _ (by unfold kwW;simp))
 clear hno
 go_enter Tryz.func42,Tryz.ntmps42
 go_wp2_with fail
 replace HA:=HA.out.pT (g:=w.heap.size) rfl t
 replace HA:=HA.out.pZ (g:=(w.heap.size+1)) (by simp)
 refine HA.out.stepQ (fun _ h=>P.punct t ⟨#[123]⟩ _) ?_
 clear HA
 intro w1 HA
 obtain⟨zr,zt,-⟩:=HA.out.fs
 have yr:=HA.out.fw 0 rfl
 go_wp2_with fail
 refine HA.out.stepQ (fun _ h=>P.punct t ⟨#[59]⟩ _) ?_
 clear zr zt yr HA
 intro w2 HA
 obtain⟨zr,zt,-⟩:=HA.out.fs
 have yr:=HA.out.fw 0 rfl
 go_wp2_with fail
 refine(aA5 t.text wdW (w2) (g:=w2.heap.size) (m:=4) rfl rfl (by decide)).mono ?_
 rintro e w8 ⟨rfl,rfl⟩
 rw [hwd]
 go_wp2_with fail
 replace HA:=HA.out.alloc (aH0 wdW)
 refine HA.out.look hR.ok t.till HT HN ?_
 clear zr zt yr HT HA
 intro nx w3 HT HA
 obtain⟨zr,zt,-⟩:=HA.out.fs
 have yr:=HA.out.fw 0 rfl
 replace HT:=hget HT
 go_wp2_with fail
 replace HA:=HA.out.pT (g:=w3.heap.size) rfl nx
 refine HA.out.stepQ (fun _ h=>P.ident t h.s) ?_
 clear zr zt yr HA
 intro w4 HA
 obtain⟨znx,zr,zt,-⟩:=HA.out.fs
 have yr:=HA.out.fw 1 rfl
 cases hi:aj0 E.m p.flags t with
 |true=>
  go_wp2_with fail
  refine HA.out.stepQ (fun _ h=>P.punct nx ⟨#[58]⟩ _) ?_
  clear znx zr zt yr HA
  intro w5 HA
  obtain⟨znx,zr,zt,-⟩:=HA.out.fs
  have yr:=HA.out.fw 1 rfl
  cases hc:punctT nx ⟨#[58]⟩ with
  |true=>
   replace HT:=hpos HT (by rw [hi,hc];rfl)
   exact absurd HT.out.symm HN.out
  |false=>
   replace HT:=hneg HT (by rw [hi,hc];decide)
   go_wp2_with fail
   replace HT:=aa5 HT
   refine HA.out.stepN HT HN (fun _ h e=>hR.h (.simple t) _ _ _ h.s e) ?_ ?_
   ·intro _ _ _ H;go_wp2_with fail;exact⟨rfl,Ans.badh H⟩
   clear znx zr zt yr HT HA
   intro z az cz q6 w6 HT HA
   obtain⟨znx,zr,zt,-⟩:=HA.out.fs
   have yr:=HA.out.fw 1 rfl
   go_wp2_with fail
   exact HA.out.fin_nd 1 0 rfl rfl rfl rfl rfl HT.out.symm
 |false=>
  replace HT:=hneg HT (by rw [hi];simp)
  go_wp2_with fail
  replace HT:=aa5 HT
  refine HA.out.stepN HT HN (fun _ h e=>hR.h (.simple t) _ _ _ h.s e) ?_ ?_
  ·intro _ _ _ H;go_wp2_with fail;exact⟨rfl,Ans.badh H⟩
  clear znx zr zt yr HT HA
  intro z az cz q5 w5 HT HA
  obtain⟨znx,zr,zt,-⟩:=HA.out.fs
  have yr:=HA.out.fw 1 rfl
  go_wp2_with fail
  exact HA.out.fin_nd 1 0 rfl rfl rfl rfl rfl HT.out.symm
theorem S.statementV {E:PE} {R:(x:Fn)→PM x.Out} (hR:Env E R) {F:Nat→Prop} {w:World} {p:Ps} (t:Tk) (list:Bool) (h:St E F w p) (hne:aa9 E.s E.m R t list p≠ .out):
  Calls Tryz.prog 42 #[.pointer (some ⟨E.b,0,none⟩),.agg #[.int .i64 t.kind,.string t.text,.int .i64 t.from',.int .i64 t.till,.bool t.line],.bool list] w (Ans E F X0 w (aa9 E.s E.m R t list p) fun n v w'=>IsP E F w' n v):=by
 have e: ∀x,aa9 E.s E.m R t list=x→aa9 E.s E.m R t list p=x p:=fun x h=>by rw [h]
 cases list with
 |false=>
  rw [e _ (if_pos rfl)] at hne⊢
  exact S.snAlone hR t h hne
 |true=>
  have h0: ¬(true=false):=by decide
  by_cases h1:t.kind≠1∨ag1 t.text kwW=false
  ·have e2:=e _ (show _=_ by unfold aa9;rw [if_neg h0,if_pos h1])
   rw [e2] at hne⊢
   exact S.statement hR t true h hne
  ·have hk:t.kind=1:=Decidable.byContradiction fun h=>h1 (.inl h)
   by_cases g0:t.text=⟨#[118,97,114]⟩
   ·have e2:=e _ (show _=_ by unfold aa9;rw [if_neg h0,if_neg h1,if_pos g0])
    rw [e2] at hne⊢
    exact S.snVar hR t hk g0 h hne
   by_cases g1:t.text=⟨#[108,101,116]⟩
   ·have e2:=e _ (show _=_ by unfold aa9;rw [if_neg h0,if_neg h1,if_neg g0,if_pos g1])
    rw [e2] at hne⊢
    exact S.snLet hR t hk g1 h hne
   by_cases g2:t.text=⟨#[102,117,110,99,116,105,111,110]⟩
   ·have e2:=e _ (show _=_ by unfold aa9;rw [if_neg h0,if_neg h1,if_neg g0,if_neg g1,if_pos g2])
    rw [e2] at hne⊢
    exact S.snFunction hR t hk g2 h hne
   by_cases g3:t.text=⟨#[99,108,97,115,115]⟩
   ·have e2:=e _ (show _=_ by unfold aa9;rw [if_neg h0,if_neg h1,if_neg g0,if_neg g1,if_neg g2,if_pos g3])
    rw [e2] at hne⊢
    exact S.snClass hR t hk g3 h hne
   by_cases g4:t.text=⟨#[105,102]⟩
   ·have e2:=e _ (show _=_ by unfold aa9;rw [if_neg h0,if_neg h1,if_neg g0,if_neg g1,if_neg g2,if_neg g3,if_pos g4])
    rw [e2] at hne⊢
    exact S.snIf hR t hk g4 h hne
   by_cases g5:t.text=⟨#[119,104,105,108,101]⟩
   ·have e2:=e _ (show _=_ by unfold aa9;rw [if_neg h0,if_neg h1,if_neg g0,if_neg g1,if_neg g2,if_neg g3,if_neg g4,if_pos g5])
    rw [e2] at hne⊢
    exact S.snWhile hR t hk g5 h hne
   by_cases g6:t.text=⟨#[100,111]⟩
   ·have e2:=e _ (show _=_ by unfold aa9;rw [if_neg h0,if_neg h1,if_neg g0,if_neg g1,if_neg g2,if_neg g3,if_neg g4,if_neg g5,if_pos g6])
    rw [e2] at hne⊢
    exact S.snDo hR t hk g6 h hne
   by_cases g7:t.text=⟨#[116,104,114,111,119]⟩
   ·have e2:=e _ (show _=_ by unfold aa9;rw [if_neg h0,if_neg h1,if_neg g0,if_neg g1,if_neg g2,if_neg g3,if_neg g4,if_neg g5,if_neg g6,if_pos g7])
    rw [e2] at hne⊢
    exact S.snThrow hR t hk g7 h hne
   by_cases g8:t.text=⟨#[100,101,98,117,103,103,101,114]⟩
   ·have e2:=e _ (show _=_ by unfold aa9;rw [if_neg h0,if_neg h1,if_neg g0,if_neg g1,if_neg g2,if_neg g3,if_neg g4,if_neg g5,if_neg g6,if_neg g7,if_pos g8])
    rw [e2] at hne⊢
    exact S.snDebugger hR t hk g8 h hne
   have e2:=e _ (show _=_ by unfold aa9;rw [if_neg h0,if_neg h1,if_neg g0,if_neg g1,if_neg g2,if_neg g3,if_neg g4,if_neg g5,if_neg g6,if_neg g7,if_neg g8])
   exact absurd e2 hne
end
end Go.Proofs.YtcgbkjhoifhnnaaGreatDoor
