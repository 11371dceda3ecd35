/- Steps (Uk Uf Ug Uh). Conditions: as stated. -/
import Derived.Test.YtnobjeelihkjmaaGreatDoorZk30
import Derived.Test.YtnobjeelihkjmaaGreatDoorZk25
import Derived.Test.YtnobjeelihkjmaaGreatDoorZk19
set_option maxHeartbeats 16000000
set_option maxRecDepth 100000
namespace Go.Proofs.YtnobjeelihkjmaaGreatDoor
section
open Go.RowKit
attribute [local go_sem] ab3 ab4 ab5 ab6 ab7 ab8
attribute [local go_sem ↓] Go.wp_at_zero Go.wp_at_succ
theorem Sa.set91 {E:PE} {F0 X:Nat→Prop} {w0 w:World} {q:Ps} {bs:List Box} {ns:List Kd} {ro:Ro} (h:Sa E F0 X w0 w q bs ns ro) (i:Nat) {g:Nat} {v0 v1 v2 v3 v4 v5 v6 v7 v8:Value} {t:TypeId} (hb:nth bs i=some (g,true,.c9 v0 v1 v2 v3 v4 v5 v6 v7 v8 t)) (u:Value):Hid (Sa E F0 X w0 (w.setCell ⟨g,1,none⟩ u) q (ae4 bs i (g,true,.c9 v0 u v2 v3 v4 v5 v6 v7 v8 t)) ns ro):=by
 obtain⟨F,h⟩:=h
 have hat:w.heap[g]? =some (.cells #[v0,v1,v2,v3,v4,v5,v6,v7,v8] t (0,0)):=(h.bx _ (ab1 hb)).2.1
 have e0:=heap_setCell_same _ g 1 _ _ u hat
 have e2:(w.setCell ⟨g,1,none⟩ u).heap[g]? =some (.cells #[v0,u,v2,v3,v4,v5,v6,v7,v8] t (0,0)):=by simpa using e0
 exact⟨F,h.setW (b':= .c9 v0 u v2 v3 v4 v5 v6 v7 v8 t) i hb (Only.setCell (X:=fun k=>k=g) (Only.refl _ _) (p:=⟨g,1,none⟩) (.inl rfl) _) e2⟩
def McL (E:PE) (R:(x:Fn)→PM x.Out) (cls:Bool) (F:Nat→Prop) (w:World) (T:Res Mb) (f:Int) (gc gr gm gs:Nat) (k:Nat) (u:Value) (wr:World):Prop:=
 ∃(i:Nat) (q:Ps),i+k=2∧u= .int .i64 i∧Hid (aO7 E.s (ai3 E.s R cls f) (mbW.drop i) q=T)∧Hid (Sa E F X0 w wr q [(gs,true,.c2 (.string ⟨#[103,101,116]⟩) (.string ⟨#[115,101,116]⟩) 9),(gm,true,.c9 (.int .i64 f) (.bool false) (.string ⟨#[]⟩) (.int .i64 0) (.string ⟨#[]⟩) (.slice none 0 0) (.int .i64 0) (.int .i64 0) (.bool false) 263),(gc,true,.c1 (.bool cls) 4),(gr,true,.c9 (.int .i64 0) (.bool false) (.string ⟨#[]⟩) (.int .i64 0) (.string ⟨#[]⟩) (.slice none 0 0) (.int .i64 0) (.int .i64 0) (.bool false) 263)] [] none)
theorem S.membersCf {E:PE} {R:(x:Fn)→PM x.Out} (hR:Env E R) {F:Nat→Prop} {w:World} {p:Ps} (h:St E F w p) (hne:ag1 E.s R false p≠ .out):
  Calls Tryz.prog 266 #[.pointer (some ⟨E.b,0,none⟩),.bool false] w (Ans E F X0 w (ag1 E.s R false p) fun m v w'=>MbV E F w' m v):=by
 obtain⟨T,hT⟩: ∃T,ag1 E.s R false p=T:=⟨_,rfl⟩
 rw [hT] at hne⊢
 unfold ag1 at hT
 have HT:=hJ hT
 have HN:=hJ hne
 have HA:=Sa.start0 (X:=X0) h
 clear h hne hT
 go_enter Tryz.func266,Tryz.ntmps266
 go_wp2_with fail
 replace HA:=HA.out.p1 (g:=w.heap.size) rfl (.bool false) 4
 replace HA:=HA.out.p9 (g:=(w.heap.size+1)) (by simp) (.int .i64 0) (.bool false) (.string ⟨#[]⟩) (.int .i64 0) (.string ⟨#[]⟩) (.slice none 0 0) (.int .i64 0) (.int .i64 0) (.bool false) 263
 refine HA.out.stepV HT HN (fun _ h e=>P.peek hR.ok 1 h.s e) ?_ ?_
 ·intro _ _ _ H;go_wp2_with fail;exact⟨rfl,Ans.badh H⟩
 clear HT HA
 intro t q1 w1 HT HA
 obtain⟨zr,zbc,-⟩:=HA.out.fs
 have yr:=HA.out.fw 0 rfl
 replace HT:=hneg HT (by decide)
 go_wp2_with fail
 replace HA:=HA.out.p9 (g:=w1.heap.size) rfl (.int .i64 t.from') (.bool false) (.string ⟨#[]⟩) (.int .i64 0) (.string ⟨#[]⟩) (.slice none 0 0) (.int .i64 0) (.int .i64 0) (.bool false) 263
 replace HA:=HA.out.p2 (g:=(w1.heap.size+1)) (by simp) (.string ⟨#[103,101,116]⟩) (.string ⟨#[115,101,116]⟩) 9
 clear zr zbc yr
 go_loopg [45] 2 (fun k u wr=>McL E R false F w T t.from' (w.heap.size) ((w.heap.size+1)) (w1.heap.size) ((w1.heap.size+1)) k u wr)
 case atStart=>exact⟨0,_,rfl,rfl,HT,HA.out.pick [0,1,3,2] [] (by decide)⟩
 case round=>
  clear HT HA
  obtain⟨i,q,hik,rfl,HT,HA⟩:=hrel
  rcases (by omega:i=0∧gk=2∨i=1∧gk=1∨i=2∧gk=0) with ⟨rfl,rfl⟩|⟨rfl,rfl⟩|⟨rfl,rfl⟩
  ·clear hik
   replace HT:=hJ (show(ag2 E.s ⟨#[103,101,116]⟩>>=fun _=>aO7 E.s (ai3 E.s R false t.from') (mbW.drop 1)) q=T from HT.out)
   obtain⟨zsl,zm,zbc,zr,-⟩:=HA.out.fs
   have yr:=HA.out.fw 3 rfl
   go_wp2_with fail
   refine HA.out.stepV HT HN (fun _ h e=>S.modifier hR ⟨#[103,101,116]⟩ false _ h.s e) ?_ ?_
   ·intro _ _ _ H;go_wp2_with fail;exact⟨rfl,Ans.badh H⟩
   clear zsl zm zbc zr yr HT HA
   intro _ q2 w2 HT HA
   obtain⟨zsl,zm,zbc,zr,-⟩:=HA.out.fs
   have yr:=HA.out.fw 3 rfl
   go_wp2_with fail
   replace HA:=HA.out.pZ (g:=w2.heap.size) rfl
   go_roundg 1
   case measure=>decide
   case rel=>exact⟨1,_,rfl,rfl,HT,HA.out.pick [1,2,3,4] [] (by decide)⟩
  ·clear hik
   replace HT:=hJ (show(ag2 E.s ⟨#[115,101,116]⟩>>=fun _=>aO7 E.s (ai3 E.s R false t.from') (mbW.drop 2)) q=T from HT.out)
   obtain⟨zsl,zm,zbc,zr,-⟩:=HA.out.fs
   have yr:=HA.out.fw 3 rfl
   go_wp2_with fail
   refine HA.out.stepV HT HN (fun _ h e=>S.modifier hR ⟨#[115,101,116]⟩ false _ h.s e) ?_ ?_
   ·intro _ _ _ H;go_wp2_with fail;exact⟨rfl,Ans.badh H⟩
   clear zsl zm zbc zr yr HT HA
   intro _ q3 w3 HT HA
   obtain⟨zsl,zm,zbc,zr,-⟩:=HA.out.fs
   have yr:=HA.out.fw 3 rfl
   go_wp2_with fail
   replace HA:=HA.out.pZ (g:=w3.heap.size) rfl
   go_roundg 0
   case measure=>decide
   case rel=>exact⟨2,_,rfl,rfl,HT,HA.out.pick [1,2,3,4] [] (by decide)⟩
  ·clear hik
   replace HT:=hJ (show ai3 E.s R false t.from' q=T from HT.out)
   unfold ai3 at HT
   obtain⟨zsl,zm,zbc,zr,-⟩:=HA.out.fs
   have yr:=HA.out.fw 3 rfl
   go_wp2_with fail
   refine HA.out.stepV HT HN (fun _ h e=>S.modifier hR ⟨#[97,115,121,110,99]⟩ false _ h.s e) ?_ ?_
   ·intro _ _ _ H;go_wp2_with fail;exact⟨rfl,Ans.badh H⟩
   clear zsl zm zbc zr yr HT HA
   intro _ q4 w4 HT HA
   obtain⟨zsl,zm,zbc,zr,-⟩:=HA.out.fs
   have yr:=HA.out.fw 3 rfl
   go_wp2_with fail
   replace HA:=HA.out.pZ (g:=w4.heap.size) rfl
   refine HA.out.stepV HT HN (fun _ h e=>P.is hR.ok ⟨#[42]⟩ h.s e) ?_ ?_
   ·intro _ _ _ H;go_wp2_with fail;exact⟨rfl,Ans.badh H⟩
   clear zsl zm zbc zr yr HT HA
   intro b q5 w5 HT HA
   obtain⟨zz1,zsl,zm,zbc,zr,-⟩:=HA.out.fs
   have yr:=HA.out.fw 4 rfl
   cases b with
   |true=>
    replace HT:=hpos HT (by rfl)
    exact absurd HT.out.symm HN.out
   |false=>
    replace HT:=hneg HT (by decide)
    go_wp2_with fail
    refine HA.out.stepN HT HN (fun _ h e=>hR.h (.takeKey false) _ _ _ h.s e) ?_ ?_
    ·intro _ _ _ H;go_wp2_with fail;exact⟨rfl,Ans.badh H⟩
    clear zz1 zsl zm zbc zr yr HT HA
    intro n an cn q6 w6 HT HA
    obtain⟨zz1,zsl,zm,zbc,zr,-⟩:=HA.out.fs
    have yr:=HA.out.fw 4 rfl
    have fm3:=HA.out.frz9 2 rfl 3
    have fm4:=HA.out.frz9 2 rfl 4
    have fm5:=HA.out.frz9 2 rfl 5
    have fm6:=HA.out.frz9 2 rfl 6
    have fm7:=HA.out.frz9 2 rfl 7
    have fr0:=HA.out.frz9 4 rfl 0
    have fr1:=HA.out.frz9 4 rfl 1
    have fr2:=HA.out.frz9 4 rfl 2
    have fr3:=HA.out.frz9 4 rfl 3
    have fr4:=HA.out.frz9 4 rfl 4
    have fr5:=HA.out.frz9 4 rfl 5
    have fr6:=HA.out.frz9 4 rfl 6
    have fr7:=HA.out.frz9 4 rfl 7
    have fr8:=HA.out.frz9 4 rfl 8
    have hmr:=HA.out.bne 2 4 rfl rfl (by decide)
    have hrm:=hmr.symm
    dsimp only at hmr hrm
    go_wp2_with fail
    exact HA.out.fin_mb 4 2 0 rfl rfl rfl rfl (by decide) rfl HT.out.symm
theorem S.membersCt {E:PE} {R:(x:Fn)→PM x.Out} (hR:Env E R) {F:Nat→Prop} {w:World} {p:Ps} (h:St E F w p) (hne:ag1 E.s R true p≠ .out):
  Calls Tryz.prog 266 #[.pointer (some ⟨E.b,0,none⟩),.bool true] w (Ans E F X0 w (ag1 E.s R true p) fun m v w'=>MbV E F w' m v):=by
 obtain⟨T,hT⟩: ∃T,ag1 E.s R true p=T:=⟨_,rfl⟩
 rw [hT] at hne⊢
 unfold ag1 at hT
 have HT:=hJ hT
 have HN:=hJ hne
 have HA:=Sa.start0 (X:=X0) h
 clear h hne hT
 go_enter Tryz.func266,Tryz.ntmps266
 go_wp2_with fail
 replace HA:=HA.out.p1 (g:=w.heap.size) rfl (.bool true) 4
 replace HA:=HA.out.p9 (g:=(w.heap.size+1)) (by simp) (.int .i64 0) (.bool false) (.string ⟨#[]⟩) (.int .i64 0) (.string ⟨#[]⟩) (.slice none 0 0) (.int .i64 0) (.int .i64 0) (.bool false) 263
 refine HA.out.stepV HT HN (fun _ h e=>P.peek hR.ok 1 h.s e) ?_ ?_
 ·intro _ _ _ H;go_wp2_with fail;exact⟨rfl,Ans.badh H⟩
 clear HT HA
 intro t q1 w1 HT HA
 obtain⟨zr,zbc,-⟩:=HA.out.fs
 have yr:=HA.out.fw 0 rfl
 replace HT:=hpos HT (by exact trivial)
 go_wp2_with fail
 replace HA:=HA.out.p9 (g:=w1.heap.size) rfl (.int .i64 t.from') (.bool false) (.string ⟨#[]⟩) (.int .i64 0) (.string ⟨#[]⟩) (.slice none 0 0) (.int .i64 0) (.int .i64 0) (.bool false) 263
 refine HA.out.stepV HT HN (fun _ h e=>S.modifier hR ⟨#[115,116,97,116,105,99]⟩ true _ h.s e) ?_ ?_
 ·intro _ _ _ H;go_wp2_with fail;exact⟨rfl,Ans.badh H⟩
 clear zr zbc yr HT HA
 intro _ q2 w2 HT HA
 obtain⟨zm,zr,zbc,-⟩:=HA.out.fs
 have yr:=HA.out.fw 1 rfl
 go_upto_region 9 with fail
 replace HA:=HA.out.pZ (g:=w2.heap.size) rfl
 clear zm zr zbc yr
 generalize (w2.alloc (.cells #[.int .i64 0,.string ⟨#[]⟩,.slice none 0 0,.int .i64 0,.int .i64 0] 27))=w3 at*
 obtain⟨zz9,zm,zr,zbc,-⟩:=HA.out.fs
 have yr:=HA.out.fw 2 rfl
 have fm1:=HA.out.frz9 1 rfl 1
 go_upto_region 10 with fail
 replace HA:=HA.out.set91 1 rfl (.bool false)
 dsimp only [ae4] at HA
 clear fm1
 clear zz9 zm zr zbc yr
 generalize World.setCell w3 _ _=w4 at*
 obtain⟨zz9,zm,zr,zbc,-⟩:=HA.out.fs
 have yr:=HA.out.fw 2 rfl
 go_wp2_with fail
 replace HA:=HA.out.p2 (g:=w4.heap.size) rfl (.string ⟨#[103,101,116]⟩) (.string ⟨#[115,101,116]⟩) 9
 clear zz9 zm zr zbc yr
 go_loopg [45] 2 (fun k u wr=>McL E R true F w T t.from' (w.heap.size) ((w.heap.size+1)) (w1.heap.size) (w4.heap.size) k u wr)
 case atStart=>exact⟨0,_,rfl,rfl,HT,HA.out.pick [0,2,4,3] [] (by decide)⟩
 case round=>
  clear HT HA
  obtain⟨i,q,hik,rfl,HT,HA⟩:=hrel
  rcases (by omega:i=0∧gk=2∨i=1∧gk=1∨i=2∧gk=0) with ⟨rfl,rfl⟩|⟨rfl,rfl⟩|⟨rfl,rfl⟩
  ·clear hik
   replace HT:=hJ (show(ag2 E.s ⟨#[103,101,116]⟩>>=fun _=>aO7 E.s (ai3 E.s R true t.from') (mbW.drop 1)) q=T from HT.out)
   obtain⟨zsl,zm,zbc,zr,-⟩:=HA.out.fs
   have yr:=HA.out.fw 3 rfl
   go_wp2_with fail
   refine HA.out.stepV HT HN (fun _ h e=>S.modifier hR ⟨#[103,101,116]⟩ true _ h.s e) ?_ ?_
   ·intro _ _ _ H;go_wp2_with fail;exact⟨rfl,Ans.badh H⟩
   clear zsl zm zbc zr yr HT HA
   intro _ q5 w5 HT HA
   obtain⟨zsl,zm,zbc,zr,-⟩:=HA.out.fs
   have yr:=HA.out.fw 3 rfl
   go_wp2_with fail
   replace HA:=HA.out.pZ (g:=w5.heap.size) rfl
   go_roundg 1
   case measure=>decide
   case rel=>exact⟨1,_,rfl,rfl,HT,HA.out.pick [1,2,3,4] [] (by decide)⟩
  ·clear hik
   replace HT:=hJ (show(ag2 E.s ⟨#[115,101,116]⟩>>=fun _=>aO7 E.s (ai3 E.s R true t.from') (mbW.drop 2)) q=T from HT.out)
   obtain⟨zsl,zm,zbc,zr,-⟩:=HA.out.fs
   have yr:=HA.out.fw 3 rfl
   go_wp2_with fail
   refine HA.out.stepV HT HN (fun _ h e=>S.modifier hR ⟨#[115,101,116]⟩ true _ h.s e) ?_ ?_
   ·intro _ _ _ H;go_wp2_with fail;exact⟨rfl,Ans.badh H⟩
   clear zsl zm zbc zr yr HT HA
   intro _ q6 w6 HT HA
   obtain⟨zsl,zm,zbc,zr,-⟩:=HA.out.fs
   have yr:=HA.out.fw 3 rfl
   go_wp2_with fail
   replace HA:=HA.out.pZ (g:=w6.heap.size) rfl
   go_roundg 0
   case measure=>decide
   case rel=>exact⟨2,_,rfl,rfl,HT,HA.out.pick [1,2,3,4] [] (by decide)⟩
  ·clear hik
   replace HT:=hJ (show ai3 E.s R true t.from' q=T from HT.out)
   unfold ai3 at HT
   obtain⟨zsl,zm,zbc,zr,-⟩:=HA.out.fs
   have yr:=HA.out.fw 3 rfl
   go_wp2_with fail
   refine HA.out.stepV HT HN (fun _ h e=>S.modifier hR ⟨#[97,115,121,110,99]⟩ true _ h.s e) ?_ ?_
   ·intro _ _ _ H;go_wp2_with fail;exact⟨rfl,Ans.badh H⟩
   clear zsl zm zbc zr yr HT HA
   intro _ q7 w7 HT HA
   obtain⟨zsl,zm,zbc,zr,-⟩:=HA.out.fs
   have yr:=HA.out.fw 3 rfl
   go_wp2_with fail
   replace HA:=HA.out.pZ (g:=w7.heap.size) rfl
   refine HA.out.stepV HT HN (fun _ h e=>P.is hR.ok ⟨#[42]⟩ h.s e) ?_ ?_
   ·intro _ _ _ H;go_wp2_with fail;exact⟨rfl,Ans.badh H⟩
   clear zsl zm zbc zr yr HT HA
   intro b q8 w8 HT HA
   obtain⟨zz1,zsl,zm,zbc,zr,-⟩:=HA.out.fs
   have yr:=HA.out.fw 4 rfl
   cases b with
   |true=>
    replace HT:=hpos HT (by rfl)
    exact absurd HT.out.symm HN.out
   |false=>
    replace HT:=hneg HT (by decide)
    go_wp2_with fail
    refine HA.out.stepN HT HN (fun _ h e=>hR.h (.takeKey true) _ _ _ h.s e) ?_ ?_
    ·intro _ _ _ H;go_wp2_with fail;exact⟨rfl,Ans.badh H⟩
    clear zz1 zsl zm zbc zr yr HT HA
    intro n an cn q9 w9 HT HA
    obtain⟨zz1,zsl,zm,zbc,zr,-⟩:=HA.out.fs
    have yr:=HA.out.fw 4 rfl
    have fm3:=HA.out.frz9 2 rfl 3
    have fm4:=HA.out.frz9 2 rfl 4
    have fm5:=HA.out.frz9 2 rfl 5
    have fm6:=HA.out.frz9 2 rfl 6
    have fm7:=HA.out.frz9 2 rfl 7
    have fr0:=HA.out.frz9 4 rfl 0
    have fr1:=HA.out.frz9 4 rfl 1
    have fr2:=HA.out.frz9 4 rfl 2
    have fr3:=HA.out.frz9 4 rfl 3
    have fr4:=HA.out.frz9 4 rfl 4
    have fr5:=HA.out.frz9 4 rfl 5
    have fr6:=HA.out.frz9 4 rfl 6
    have fr7:=HA.out.frz9 4 rfl 7
    have fr8:=HA.out.frz9 4 rfl 8
    have hmr:=HA.out.bne 2 4 rfl rfl (by decide)
    have hrm:=hmr.symm
    dsimp only at hmr hrm
    go_wp2_with fail
    exact HA.out.fin_mb 4 2 0 rfl rfl rfl rfl (by decide) rfl HT.out.symm
theorem S.membersC {E:PE} {R:(x:Fn)→PM x.Out} (hR:Env E R) {F:Nat→Prop} {w:World} {p:Ps} (cls:Bool) (h:St E F w p) (hne:ag1 E.s R cls p≠ .out):
  Calls Tryz.prog 266 #[.pointer (some ⟨E.b,0,none⟩),.bool cls] w (Ans E F X0 w (ag1 E.s R cls p) fun m v w'=>MbV E F w' m v):=by
 cases cls
 ·exact S.membersCf hR h hne
 ·exact S.membersCt hR h hne
theorem Fcs.mem {w:World} : ∀ {l:List Box},Fcs w l→∀b,b ∈ l→BxF w b
 | [],_,_,h=>by cases h
 |x::l,hf,b,h=>by
  rcases List.mem_cons.1 h with rfl|h
  ·exact hf.1
  ·exact Fcs.mem hf.2 b h
theorem Sa.fin_in {E:PE} {F0 X:Nat→Prop} {w0 w:World} {q:Ps} {bs:List Box} {ns:List Kd} {ro:Ro} {fn:Func} {r:Tmp} {tmps:Array Value} {g:Nat} {n:Nd} {a:Option Addr} {c:Nat} {T:Res Nd} (h:Sa E F0 X w0 w q bs ns ro) (i j:Nat) (hr:fn.results= #[.cell r 27]) (hr2:tmps.getD r undef= .pointer (some ⟨g,0,none⟩)) (hb:nth bs i=some (g,true,.nd n a c)) (hn:nth ns j=some (n,a,c)) (ht:T= .ok n q):
  bodyPost Tryz.prog fn (Ans E F0 X w0 T fun n v w'=>IsP E F0 w' n v) Exit.ret { tmps:=tmps,defers:= [] } w:=by
 obtain⟨F,h⟩:=h
 have hbx:ab0 w g n.kind n.text a n.kids.length c n.from' n.till:=(h.bx _ (ab1 hb)).2.1
 exact bodyPost_ret (aF3 hr _ _ g hr2 hbx) rfl (h.ans ht ((h.ni j hn).weak h.le))
theorem ba3 {b8 b9 b10:Bool} (h9:b9=true→b8=true) (h10:b10=true→b9=true) (h:b8=false):b9=false∧b10=false:=by
 subst h
 cases b9 with
 |true=>exact absurd (h9 rfl) (by decide)
 |false=>exact⟨rfl,by cases b10 with|false=>rfl|true=>exact absurd (h10 rfl) (by decide)⟩
theorem P.mtext (mf:Int) (n:Nd) (an:Option Addr) (cn:Nat) (mb:Bool) (w:World):Calls Tryz.prog 292 #[.agg #[.int .i64 mf,.bool false,.string ⟨#[]⟩,.int .i64 n.kind,.string n.text,.slice an n.kids.length cn,.int .i64 n.from',.int .i64 n.till,.bool mb]] w fun e w'=>e= .returned (.string ⟨#[]⟩)∧Below w.heap.size w w':=by
 go_enter Tryz.func292,Tryz.ntmps292
 go_wp2_with fail
 go_ret
 exact⟨rfl,Below.alloc (Below.refl _ _) (Nat.le_refl _) _⟩
theorem S.methodC {E:PE} {R:(x:Fn)→PM x.Out} (hR:Env E R) {F:Nat→Prop} {w:World} {p:Ps} (m:Mb) (v:Value) (hm:MbV E F w m v) (h:St E F w p) (hne:aw1 E.s R m p≠ .out):
  Calls Tryz.prog 268 #[.pointer (some ⟨E.b,0,none⟩),v] w (Ans E F X0 w (aw1 E.s R m p) fun n v w'=>IsP E F w' n v):=by
 obtain⟨T,hT⟩: ∃T,aw1 E.s R m p=T:=⟨_,rfl⟩
 rw [hT] at hne⊢
 unfold aw1 at hT
 obtain⟨mf,ms,mk,n,mb⟩:=m
 dsimp only at hT
 by_cases ho:mk≠⟨#[]⟩∨ms=true
 ·rw [if_pos ho] at hT
  exact absurd hT.symm hne
 rw [if_neg ho] at hT
 obtain rfl:mk=⟨#[]⟩:=Decidable.byContradiction fun h=>ho (.inl h)
 obtain rfl:ms=false:=by cases ms with
  |false=>rfl
  |true=>exact absurd (.inr rfl) ho
 clear ho
 obtain⟨an,cn,rfl,hn0⟩:=hm
 dsimp only at hn0⊢
 have HT:=hJ hT
 have HN:=hJ hne
 have HA:=Sa.start1 (X:=X0) h hn0
 clear h hne hT hn0
 replace HA:=hJ (Sa.addk HA.out .zero none 0 rfl)
 go_enter Tryz.func268,Tryz.ntmps268
 go_upto_region 1 with fail
 replace HA:=HA.out.p9 (g:=w.heap.size) rfl (.int .i64 mf) (.bool false) (.string ⟨#[]⟩) (.int .i64 n.kind) (.string n.text) (.slice an n.kids.length cn) (.int .i64 n.from') (.int .i64 n.till) (.bool mb) 263
 replace HA:=HA.out.pZ (g:=(w.heap.size+1)) (by simp)
 generalize ((w.alloc (.cells #[.int .i64 mf,.bool false,.string ⟨#[]⟩,.int .i64 n.kind,.string n.text,.slice an n.kids.length cn,.int .i64 n.from',.int .i64 n.till,.bool mb] 263)).alloc (.cells #[.int .i64 0,.string ⟨#[]⟩,.slice none 0 0,.int .i64 0,.int .i64 0] 27))=w1 at*
 obtain⟨zr,zm,-⟩:=HA.out.fs
 have yr:=HA.out.fw 0 rfl
 clear zr zm yr
 go_cut [5] from 6 to 15 (fun v wr=> ∃(gz:Nat) (g:Nd) (ag:Option Addr) (cg:Nat) (q:Ps),v= .pointer (some ⟨gz,0,none⟩)∧Hid (ac7 15 ⟨#[]⟩ mf [n,g] q=T)∧Hid (Sa E F X0 w wr q [(gz,true,.nd g ag cg),(w.heap.size+1,true,Bx.z),(w.heap.size,true,Bx.c9 (.int .i64 mf) (.bool false) (.string ⟨#[]⟩) (.int .i64 n.kind) (.string n.text) (.slice an n.kids.length cn) (.int .i64 n.from') (.int .i64 n.till) (.bool mb) 263)] [(g,ag,cg),(n,an,cn)] none))
 case first=>
  have zr:=HA.out.fs.mem (w.heap.size+1,true,Bx.z) (by simp)
  have zm:=HA.out.fs.mem (w.heap.size,true,Bx.c9 (.int .i64 mf) (.bool false) (.string ⟨#[]⟩) (.int .i64 n.kind) (.string n.text) (.slice an n.kids.length cn) (.int .i64 n.from') (.int .i64 n.till) (.bool mb) 263) (by simp)
  have y0:=HA.out.fw 0 rfl
  have z0:=HA.out.fs.1
  rcases at1 HT HN with ⟨t,r1,HX,hk⟩|⟨c,i,HX,hk⟩
  ·replace HT:=hk
   clear hk
   rcases at1 HT HN with ⟨g,r2,HX2,hk⟩|⟨c,i,HX2,hk⟩
   ·replace HT:=hk
    clear hk
    go_region_with (first|(go_at_call 18;(first|(replace HA:=HA.out.drew;refine HA.out.gotV HX (fun _ h e=>P.peek hR.ok 1 h.s e) ?_)|(replace HA:=(HA.out.pZ rfl).out.drew;refine HA.out.gotV HX (fun _ h e=>P.peek hR.ok 1 h.s e) ?_));(try clear zr);(try clear zm);(try clear y0);(try clear z0);clear HA;intro w5 HA;have zr:=HA.out.fs.mem (w.heap.size+1,true,Bx.z) (by simp);have zm:=HA.out.fs.mem (w.heap.size,true,Bx.c9 (.int .i64 mf) (.bool false) (.string ⟨#[]⟩) (.int .i64 n.kind) (.string n.text) (.slice an n.kids.length cn) (.int .i64 n.from') (.int .i64 n.till) (.bool mb) 263) (by simp);have y0:=HA.out.fw 0 rfl;have z0:=HA.out.fs.1)|(go_at_call 241;(first|(refine HA.out.gotN HX2 (fun _ h e=>hR.h (.callable ⟨#[]⟩ t.from' .zero ⟨#[]⟩) _ _ _ _ (h.ni 0 rfl) h.s e) ?_)|(replace HA:=HA.out.pZ rfl;refine HA.out.gotN HX2 (fun _ h e=>hR.h (.callable ⟨#[]⟩ t.from' .zero ⟨#[]⟩) _ _ _ _ (h.ni 0 rfl) h.s e) ?_));(try clear zr);(try clear zm);(try clear y0);(try clear z0);clear HA;intro ag cg w6 HA;have zr:=HA.out.fs.mem (w.heap.size+1,true,Bx.z) (by simp);have zm:=HA.out.fs.mem (w.heap.size,true,Bx.c9 (.int .i64 mf) (.bool false) (.string ⟨#[]⟩) (.int .i64 n.kind) (.string n.text) (.slice an n.kids.length cn) (.int .i64 n.from') (.int .i64 n.till) (.bool mb) 263) (by simp);have y0:=HA.out.fw 0 rfl;have z0:=HA.out.fs.1))
    all_goals go_wp2_with fail
    all_goals first
     |(replace HA:=HA.out.setN 0 0 rfl rfl rfl;obtain⟨w9,e8,HA⟩:=HA;rw [e8];clear e8;dsimp only [ae4] at HA;go_meet;exact⟨_,g,ag,cg,_,rfl,HT,HA.out.pick [0,1,2] [0,2] (by decide)⟩)
     |(replace HA:=HA.out.pN rfl g ag cg;generalize World.alloc _ _=w9 at*;go_meet;exact⟨_,g,ag,cg,_,rfl,HT,HA.out.pick [0,1,2] [0,2] (by decide)⟩)
   ·replace HT:=hk
    clear hk
    go_region_with (first|(go_at_call 18;(first|(replace HA:=HA.out.drew;refine HA.out.gotV HX (fun _ h e=>P.peek hR.ok 1 h.s e) ?_)|(replace HA:=(HA.out.pZ rfl).out.drew;refine HA.out.gotV HX (fun _ h e=>P.peek hR.ok 1 h.s e) ?_));(try clear zr);(try clear zm);(try clear y0);(try clear z0);clear HA;intro w5 HA;have zr:=HA.out.fs.mem (w.heap.size+1,true,Bx.z) (by simp);have zm:=HA.out.fs.mem (w.heap.size,true,Bx.c9 (.int .i64 mf) (.bool false) (.string ⟨#[]⟩) (.int .i64 n.kind) (.string n.text) (.slice an n.kids.length cn) (.int .i64 n.from') (.int .i64 n.till) (.bool mb) 263) (by simp);have y0:=HA.out.fw 0 rfl;have z0:=HA.out.fs.1)|(go_at_call 241;(first|(refine HA.out.gotbad (.agg #[.int .i64 0,.string ⟨#[]⟩,.slice none 0 0,.int .i64 0,.int .i64 0]) HX2 HT (fun _ h e=>hR.h (.callable ⟨#[]⟩ t.from' .zero ⟨#[]⟩) _ _ _ _ (h.ni 0 rfl) h.s e) (fun _ H=>by (go_wp2_with fail);exact⟨rfl,Ans.badh H⟩) ?_)|(replace HA:=HA.out.pZ rfl;refine HA.out.gotbad (.agg #[.int .i64 0,.string ⟨#[]⟩,.slice none 0 0,.int .i64 0,.int .i64 0]) HX2 HT (fun _ h e=>hR.h (.callable ⟨#[]⟩ t.from' .zero ⟨#[]⟩) _ _ _ _ (h.ni 0 rfl) h.s e) (fun _ H=>by (go_wp2_with fail);exact⟨rfl,Ans.badh H⟩) ?_));intro HF))
    all_goals exact HF.out.elim
  ·replace HT:=hk
   clear hk
   go_region_with (first|(go_at_call 18;(first|(replace HA:=HA.out.drew;refine HA.out.gotbad (.agg #[.int .i64 0,.string ⟨#[]⟩,.int .i64 0,.int .i64 0,.bool false]) HX HT (fun _ h e=>P.peek hR.ok 1 h.s e) (fun _ H=>by (go_wp2_with fail);exact⟨rfl,Ans.badh H⟩) ?_)|(replace HA:=(HA.out.pZ rfl).out.drew;refine HA.out.gotbad (.agg #[.int .i64 0,.string ⟨#[]⟩,.int .i64 0,.int .i64 0,.bool false]) HX HT (fun _ h e=>P.peek hR.ok 1 h.s e) (fun _ H=>by (go_wp2_with fail);exact⟨rfl,Ans.badh H⟩) ?_));intro HF)|(go_at_call 241;refine av1 (.agg #[.int .i64 0,.string ⟨#[]⟩,.slice none 0 0,.int .i64 0,.int .i64 0]) HF ?_))
   all_goals exact HF.out.elim
 case rest=>
  clear HT HA
  obtain⟨gz,g,ag,cg,q,rfl,HT,HA⟩:=hcut
  go_wp2_with fail
  replace HA:=HA.out.drew
  generalize ha0:Act.mk _ _=a0
  refine ai8 (by kernel_rfl) (by kernel_rfl) (fun listed a W=> ∃(b0 b1 b2 b3 b4 b5 b6 b7 b8 b9 b10:Bool) (gk:Nat) (o:Nd) (ao:Option Addr) (co:Nat),listed= #[b0,b1,b2,b3,b4,b5,b6,b7,b8,b9,b10]∧a= { tmps:=((((((((((a0.tmps.setIfInBounds 16 (bif b0 then .pointer (some ⟨E.b,0,none⟩) else a0.tmps.getD 16 undef)).setIfInBounds 17 (bif b1 then .agg #[.int .i64 mf,.bool false,.string ⟨#[]⟩,.int .i64 n.kind,.string n.text,.slice an n.kids.length cn,.int .i64 n.from',.int .i64 n.till,.bool mb] else a0.tmps.getD 17 undef)).setIfInBounds 18 (bif b2 then .string ⟨#[]⟩ else a0.tmps.getD 18 undef)).setIfInBounds 19 (bif b3 then .pointer (some ⟨w.heap.size,0,none⟩) else a0.tmps.getD 19 undef)).setIfInBounds 20 (bif b4 then .int .i64 mf else a0.tmps.getD 20 undef)).setIfInBounds 21 (bif b5 then .pointer (some ⟨w.heap.size,3,none⟩) else a0.tmps.getD 21 undef)).setIfInBounds 22 (bif b6 then .agg #[.int .i64 n.kind,.string n.text,.slice an n.kids.length cn,.int .i64 n.from',.int .i64 n.till] else a0.tmps.getD 22 undef)).setIfInBounds 23 (bif b7 then .agg #[.int .i64 g.kind,.string g.text,.slice ag g.kids.length cg,.int .i64 g.from',.int .i64 g.till] else a0.tmps.getD 23 undef)).setIfInBounds 24 (bif b8 then .slice (some ⟨gk,0,none⟩) 2 2 else a0.tmps.getD 24 undef)).setIfInBounds 25 (bif b9 then .agg #[.int .i64 o.kind,.string o.text,.slice ao o.kids.length co,.int .i64 o.from',.int .i64 o.till] else a0.tmps.getD 25 undef)),defers:=a0.defers } ∧(b9=true→(b2 && b8)=true)∧(b10=true→b9=true)∧(b9=true→T= .ok o q)∧Sa E F X0 w W q [(gz,true,.nd g ag cg),(w.heap.size+1,true,bif b10 then .nd o ao co else .z),(w.heap.size,true,Bx.c9 (.int .i64 mf) (.bool false) (.string ⟨#[]⟩) (.int .i64 n.kind) (.string n.text) (.slice an n.kids.length cn) (.int .i64 n.from') (.int .i64 n.till) (.bool mb) 263)] (bif b9 then (o,ao,co):: [(Nd.mk 0 ⟨#[]⟩ [n,g] 0 0,some ⟨gk,0,none⟩,2),(g,ag,cg),(n,an,cn)] else bif b8 then [(Nd.mk 0 ⟨#[]⟩ [n,g] 0 0,some ⟨gk,0,none⟩,2),(g,ag,cg),(n,an,cn)] else [(g,ag,cg),(n,an,cn)]) none) ?_ ?_ ?_
  ·subst ha0
   exact⟨_,_,_,_,_,_,_,_,_,_,_,0,Nd.zero,none,0,rfl,(by kernel_rfl),(by simp),(by simp),(fun h=>by cases h),HA.out⟩
  ·rintro a a1 W ⟨b0,b1,b2,b3,b4,b5,b6,b7,b8,b9,b10,gk,o,ao,co,h1,rfl,i9,i10,iT,hS⟩ hfr
   have h2: [true,true,true,true,true,true,true,true,true,true,true]= [b0,b1,b2,b3,b4,b5,b6,b7,b8,b9,b10]:=congrArg Array.toList h1
   simp only [List.cons.injEq,and_true] at h2
   obtain⟨rfl,rfl,rfl,rfl,rfl,rfl,rfl,rfl,rfl,rfl,rfl⟩:=h2
   clear h1
   have HA:=hJ hS
   clear hS
   subst ha0
   simp only [List.setIfInBounds_toArray,List.set_cons_succ,List.set_cons_zero,Array.getD_eq_getD_getElem?,List.getElem?_toArray,List.getElem?_cons_succ,List.getElem?_cons_zero,Option.getD_some,cond_true] at hfr
   subst hfr
   obtain rfl:T= .ok o q:=iT rfl
   generalize W=w8 at*
   go_wp2_with fail
   exact HA.out.fin_in 1 0 rfl rfl rfl rfl rfl
  ·clear HA
   rintro listed a a1 W i ⟨b0,b1,b2,b3,b4,b5,b6,b7,b8,b9,b10,gk,o,ao,co,rfl,rfl,i9,i10,iT,hS⟩ hfr hi
   rw [mem_ready] at hi
   have HA:=hJ hS
   clear hS
   subst ha0
   simp only [List.setIfInBounds_toArray,List.set_cons_succ,List.set_cons_zero,Array.getD_eq_getD_getElem?,List.getElem?_toArray,List.getElem?_cons_succ,List.getElem?_cons_zero,Option.getD_some] at hfr
   subst hfr
   match i,hi with
   |0,hg=>
    clear hi
    simp [Region.binds] at hg
    obtain rfl:b0=false:=by simp [hg]
    refine wpOp_step rfl fun K hK=> ?_
    go_simp
    exact hK _ _ ⟨_,_,_,_,_,_,_,_,_,_,_,gk,o,ao,co,rfl,(by kernel_rfl),i9,i10,iT,HA.out⟩
   |1,hg=>
    clear hi
    simp [Region.binds] at hg
    obtain rfl:b1=false:=by simp [hg]
    obtain⟨zgz,_,zm,-⟩:=HA.out.fs
    refine wpOp_step rfl fun K hK=> ?_
    go_simp
    exact hK _ _ ⟨_,_,_,_,_,_,_,_,_,_,_,gk,o,ao,co,rfl,(by kernel_rfl),i9,i10,iT,HA.out⟩
   |2,hg=>
    clear hi
    simp [Region.binds] at hg
    obtain rfl:b1=true:=by simp [hg]
    obtain rfl:b2=false:=by simp [hg]
    obtain⟨rfl,rfl⟩:b9=false∧b10=false:=ba3 i9 i10 (by simp)
    refine wpOp_step rfl fun K hK=> ?_
    go_simp
    refine HA.out.stepQ (fun _ h=>P.mtext mf n an cn mb _) ?_
    intro w5 HA
    exact hK _ _ ⟨_,_,_,_,_,_,_,_,_,_,_,gk,o,ao,co,rfl,(by kernel_rfl),(by simp),(by simp),iT,HA.out⟩
   |3,hg=>
    clear hi
    simp [Region.binds] at hg
    obtain rfl:b3=false:=by simp [hg]
    refine wpOp_step rfl fun K hK=> ?_
    go_simp
    exact hK _ _ ⟨_,_,_,_,_,_,_,_,_,_,_,gk,o,ao,co,rfl,(by kernel_rfl),i9,i10,iT,HA.out⟩
   |4,hg=>
    clear hi
    simp [Region.binds] at hg
    obtain rfl:b3=true:=by simp [hg]
    obtain rfl:b4=false:=by simp [hg]
    obtain⟨zgz,_,zm,-⟩:=HA.out.fs
    refine wpOp_step rfl fun K hK=> ?_
    go_simp
    exact hK _ _ ⟨_,_,_,_,_,_,_,_,_,_,_,gk,o,ao,co,rfl,(by kernel_rfl),i9,i10,iT,HA.out⟩
   |5,hg=>
    clear hi
    simp [Region.binds] at hg
    obtain rfl:b5=false:=by simp [hg]
    refine wpOp_step rfl fun K hK=> ?_
    go_simp
    exact hK _ _ ⟨_,_,_,_,_,_,_,_,_,_,_,gk,o,ao,co,rfl,(by kernel_rfl),i9,i10,iT,HA.out⟩
   |6,hg=>
    clear hi
    simp [Region.binds] at hg
    obtain rfl:b5=true:=by simp [hg]
    obtain rfl:b6=false:=by simp [hg]
    obtain⟨zgz,_,zm,-⟩:=HA.out.fs
    refine wpOp_step rfl fun K hK=> ?_
    go_simp
    exact hK _ _ ⟨_,_,_,_,_,_,_,_,_,_,_,gk,o,ao,co,rfl,(by kernel_rfl),i9,i10,iT,HA.out⟩
   |7,hg=>
    clear hi
    simp [Region.binds] at hg
    obtain rfl:b7=false:=by simp [hg]
    obtain⟨zgz,_,zm,-⟩:=HA.out.fs
    refine wpOp_step rfl fun K hK=> ?_
    go_simp
    exact hK _ _ ⟨_,_,_,_,_,_,_,_,_,_,_,gk,o,ao,co,rfl,(by kernel_rfl),i9,i10,iT,HA.out⟩
   |8,hg=>
    clear hi
    simp [Region.binds] at hg
    obtain⟨rfl,rfl⟩:b6=true∧b7=true:=by simp [hg]
    obtain rfl:b8=false:=by simp [hg]
    obtain⟨rfl,rfl⟩:b9=false∧b10=false:=ba3 i9 i10 (by simp)
    have HL:=HA.out.lit 0 ⟨#[]⟩ [(n,an,cn),(g,ag,cg)] (by simp) 0 0 rfl rfl rfl
    refine wpOp_step rfl fun K hK=> ?_
    go_simp
    exact hK _ _ ⟨_,_,_,_,_,_,_,_,_,_,_,W.heap.size,o,ao,co,rfl,(by kernel_rfl),(by simp),(by simp),iT,HL.out⟩
   |9,hg=>
    clear hi
    simp [Region.binds] at hg
    obtain⟨rfl,rfl,rfl,rfl⟩:b0=true∧b2=true∧b4=true∧b8=true:=by simp [hg]
    obtain rfl:b9=false:=by simp [hg]
    obtain rfl:b10=false:=by cases b10 with|false=>rfl|true=>exact absurd (i10 rfl) (by decide)
    refine wpOp_step rfl fun K hK=> ?_
    go_simp
    refine HA.out.nodeK (ks:= [n,g]) (a0:=some ⟨gk,0,none⟩) (c0:=2) 15 ⟨#[]⟩ mf 0 rfl (ac9 HT) ?_
    intro o ao co w6 _ HT2 HA
    exact hK _ _ ⟨_,_,_,_,_,_,_,_,_,_,_,gk,o,ao,co,rfl,(by kernel_rfl),(by simp),(by simp),(fun _=>HT2.out.symm),HA.out⟩
   |10,hg=>
    clear hi
    simp [Region.binds] at hg
    obtain⟨rfl,rfl,rfl,rfl,rfl,rfl,rfl,rfl,rfl,rfl⟩:b0=true∧b1=true∧b2=true∧b3=true∧b4=true∧b5=true∧b6=true∧b7=true∧b8=true∧b9=true:=by simp [hg]
    obtain rfl:b10=false:=by simp [hg]
    dsimp only [cond_true,cond_false] at HA
    obtain⟨w9,e8,HB⟩:=HA.out.setN 1 0 rfl rfl rfl
    obtain⟨zgz,zr,zm,-⟩:=HA.out.fs
    have yr:=HA.out.fw 1 rfl
    refine wpOp_step rfl fun K hK=> ?_
    go_simp
    exact hK _ _ ⟨_,_,_,_,_,_,_,_,_,_,_,gk,o,ao,co,rfl,(by kernel_rfl),(by simp),(by simp),iT,HB.out⟩
   |i+11,hg=>obtain⟨_,o,ho,_⟩:=hg;exact absurd ho (by simp)
theorem S.propC {E:PE} {R:(x:Fn)→PM x.Out} (hR:Env E R) {F:Nat→Prop} {w:World} {p:Ps} (h:St E F w p) (hne:aQ2 E.s R p≠ .out):
  Calls Tryz.prog 311 #[.pointer (some ⟨E.b,0,none⟩)] w (Ans E F X0 w (aQ2 E.s R p) fun n v w'=>IsP E F w' n v):=by
 obtain⟨T,hT⟩: ∃T,aQ2 E.s R p=T:=⟨_,rfl⟩
 rw [hT] at hne⊢
 unfold aQ2 at hT
 have HT:=hJ hT
 have HN:=hJ hne
 have HA:=Sa.start0 (X:=X0) h
 clear h hne hT
 go_enter Tryz.func311,Tryz.ntmps311
 go_wp2_with fail
 replace HA:=HA.out.pZ (g:=w.heap.size) rfl
 refine HA.out.stepM HT HN (fun _ h e=>hR.h (.members false) _ _ _ h.s e) ?_ ?_
 ·intro _ _ _ H;go_wp2_with fail;exact⟨rfl,Ans.badh H⟩
 clear HT HA
 intro n an cn q1 w1 mf ms mk mb HT HA
 dsimp only at HT
 obtain⟨zr,-⟩:=HA.out.fs
 have yr:=HA.out.fw 0 rfl
 go_wp2_with fail
 replace HA:=HA.out.p9 (g:=w1.heap.size) rfl (.int .i64 mf) (.bool ms) (.string mk) (.int .i64 n.kind) (.string n.text) (.slice an n.kids.length cn) (.int .i64 n.from') (.int .i64 n.till) (.bool mb) 263
 refine HA.out.stepV HT HN (fun _ h e=>P.peek hR.ok 1 h.s e) ?_ ?_
 ·intro _ _ _ H;go_wp2_with fail;exact⟨rfl,Ans.badh H⟩
 clear zr yr HT HA
 intro t q2 w2 HT HA
 obtain⟨zm,zr,-⟩:=HA.out.fs
 have yr:=HA.out.fw 1 rfl
 go_wp2_with fail
 replace HA:=HA.out.pT (g:=w2.heap.size) rfl t
 refine HA.out.stepQ (fun _ h=>P.punct t ⟨#[40]⟩ _) ?_
 clear zm zr yr HA
 intro w3 HA
 obtain⟨zt,zm,zr,-⟩:=HA.out.fs
 have yr:=HA.out.fw 2 rfl
 cases hu:aa2 t ⟨#[40]⟩ with
 |true=>
  replace HT:=hpos HT (by rw [hu])
  replace HT:=ac9 HT
  go_wp2_with fail
  refine HA.out.stepN HT HN (fun _ h e=>hR.h (.method ⟨mf,ms,mk,n,mb⟩) _ _ _ _ ⟨an,cn,rfl,h.ni 0 rfl⟩ h.s e) ?_ ?_
  ·intro _ _ _ H;go_wp2_with fail;exact⟨rfl,Ans.badh H⟩
  clear zt zm zr yr HT HA
  intro o ao co q4 w4 HT HA
  obtain⟨zt,zm,zr,-⟩:=HA.out.fs
  have yr:=HA.out.fw 2 rfl
  go_wp2_with fail
  exact HA.out.fin_nd 2 0 rfl rfl rfl rfl rfl HT.out.symm
 |false=>
  replace HT:=hneg HT (by rw [hu];decide)
  by_cases hx:mk≠⟨#[]⟩
  ·rw [if_pos hx] at HT
   exact absurd HT.out.symm HN.out
  rw [if_neg hx] at HT
  obtain rfl:mk=⟨#[]⟩:=Decidable.byContradiction hx
  clear hx
  go_wp2_with fail
  refine HA.out.stepQ (fun _ h=>P.punct t ⟨#[58]⟩ _) ?_
  clear zt zm zr yr HA
  intro w4 HA
  obtain⟨zt,zm,zr,-⟩:=HA.out.fs
  have yr:=HA.out.fw 2 rfl
  cases hc:aa2 t ⟨#[58]⟩ with
  |true=>
   replace HT:=hpos HT (by rw [hc])
   go_wp2_with fail
   refine HA.out.stepV HT HN (fun _ h e=>P.take hR.ok h.s e) ?_ ?_
   ·intro _ _ _ H;go_wp2_with fail;exact⟨rfl,Ans.badh H⟩
   clear zt zm zr yr HT HA
   intro _ q5 w5 HT HA
   obtain⟨zt,zm,zr,-⟩:=HA.out.fs
   have yr:=HA.out.fw 2 rfl
   go_wp2_with fail
   refine HA.out.stepN HT HN (fun _ h e=>hR.h .assign _ _ _ h.s e) ?_ ?_
   ·intro _ _ _ H;go_wp2_with fail;exact⟨rfl,Ans.badh H⟩
   clear zt zm zr yr HT HA
   intro v av cv q6 w6 HT HA
   obtain⟨zt,zm,zr,-⟩:=HA.out.fs
   have yr:=HA.out.fw 2 rfl
   replace HT:=ac9 HT
   go_wp2_with fail
   replace HA:=HA.out.pN (g:=w6.heap.size) rfl v av cv
   refine HA.out.node 13 ⟨#[]⟩ mf [(n,an,cn),(v,av,cv)] (by simp) rfl (by simp) rfl rfl HT ?_
   clear zt zm zr yr HT HA
   intro o ao co w7 _ HT HA
   obtain⟨zv,zt,zm,zr,-⟩:=HA.out.fs
   have yr:=HA.out.fw 3 rfl
   go_wp2_with fail
   exact HA.out.fin_nd 3 0 rfl rfl rfl rfl rfl HT.out.symm
  |false=>
   replace HT:=hneg HT (by rw [hc];decide)
   exact absurd HT.out.symm HN.out
theorem S.element2C {E:PE} {R:(x:Fn)→PM x.Out} (hR:Env E R) {F:Nat→Prop} {w:World} {p:Ps} (h:St E F w p) (hne:an5 E.s R p≠ .out):
  Calls Tryz.prog 240 #[.pointer (some ⟨E.b,0,none⟩)] w (Ans E F X0 w (an5 E.s R p) fun n v w'=>IsP E F w' n v):=by
 obtain⟨T,hT⟩: ∃T,an5 E.s R p=T:=⟨_,rfl⟩
 rw [hT] at hne⊢
 unfold an5 at hT
 have HT:=hJ hT
 have HN:=hJ hne
 have HA:=Sa.start0 (X:=X0) h
 clear h hne hT
 go_enter Tryz.func240,Tryz.ntmps240
 go_wp2_with fail
 replace HA:=HA.out.pP (g:=w.heap.size) rfl
 replace HA:=HA.out.pZ (g:=(w.heap.size+1)) (by simp)
 refine HA.out.stepM HT HN (fun _ h e=>hR.h (.members true) _ _ _ h.s e) ?_ ?_
 ·intro _ _ _ H;go_wp2_with fail;exact⟨rfl,Ans.badh H⟩
 clear HT HA
 intro n an cn q1 w1 mf ms mk mb HT HA
 dsimp only at HT
 obtain⟨zr,zpb,-⟩:=HA.out.fs
 have yr:=HA.out.fw 0 rfl
 cases mb with
 |true=>
  replace HT:=hpos HT (by rfl)
  exact absurd HT.out.symm HN.out
 |false=>
  replace HT:=hneg HT (by decide)
  go_wp2_with fail
  replace HA:=HA.out.p9 (g:=w1.heap.size) rfl (.int .i64 mf) (.bool ms) (.string mk) (.int .i64 n.kind) (.string n.text) (.slice an n.kids.length cn) (.int .i64 n.from') (.int .i64 n.till) (.bool false) 263
  refine HA.out.stepV HT HN (fun _ h e=>P.peek hR.ok 1 h.s e) ?_ ?_
  ·intro _ _ _ H;go_wp2_with fail;exact⟨rfl,Ans.badh H⟩
  clear zr zpb yr HT HA
  intro t q2 w2 HT HA
  obtain⟨zm,zr,zpb,-⟩:=HA.out.fs
  have yr:=HA.out.fw 1 rfl
  go_wp2_with fail
  refine HA.out.stepQ (fun _ h=>P.punct t ⟨#[40]⟩ _) ?_
  clear zm zr zpb yr HA
  intro w3 HA
  obtain⟨zm,zr,zpb,-⟩:=HA.out.fs
  have yr:=HA.out.fw 1 rfl
  cases hu:aa2 t ⟨#[40]⟩ with
  |true=>
   replace HT:=hpos HT (by rw [hu])
   replace HT:=ac9 HT
   go_wp2_with fail
   refine HA.out.stepN HT HN (fun _ h e=>hR.h (.method ⟨mf,ms,mk,n,false⟩) _ _ _ _ ⟨an,cn,rfl,h.ni 0 rfl⟩ h.s e) ?_ ?_
   ·intro _ _ _ H;go_wp2_with fail;exact⟨rfl,Ans.badh H⟩
   clear zm zr zpb yr HT HA
   intro o ao co q4 w4 HT HA
   obtain⟨zm,zr,zpb,-⟩:=HA.out.fs
   have yr:=HA.out.fw 1 rfl
   go_wp2_with fail
   exact HA.out.fin_nd 1 0 rfl rfl rfl rfl rfl HT.out.symm
  |false=>
   replace HT:=hneg HT (by rw [hu];decide)
   exact absurd HT.out.symm HN.out
def ClL (E:PE) (R:(x:Fn)→PM x.Out) (F:Nat→Prop) (w:World) (T:Res Nd) (from' of:Int) (gp gr gi gs:Nat) (k:Nat) (u:Value) (wr:World):Prop:=
 ∃(l:List Kd) (q:Ps),Hid (clsL E.s R from' of k (l.map (·.1)) q=T)∧Hid (Sa E F X0 w wr q [(gp,true,.p E.b),(gr,true,.z),(gi,true,.z),(gs,true,.z)] [] (some (u,l)))
theorem S.clsC {E:PE} {R:(x:Fn)→PM x.Out} (hR:Env E R) {F:Nat→Prop} {w:World} {p:Ps} (f:Nat) (must:Bool) (h:St E F w p) (hne:aC9 E.s f R must p≠ .out):
  Calls Tryz.prog 200 #[.pointer (some ⟨E.b,0,none⟩),.bool must] w (Ans E F X0 w (aC9 E.s f R must p) fun n v w'=>IsP E F w' n v):=by
 obtain⟨T,hT⟩: ∃T,aC9 E.s f R must p=T:=⟨_,rfl⟩
 rw [hT] at hne⊢
 unfold aC9 at hT
 have HT:=hJ hT
 have HN:=hJ hne
 have HA:=Sa.start0 (X:=X0) h
 clear h hne hT
 cases must with
 |true=>
  replace HT:=hpos HT (by rfl)
  exact absurd HT.out.symm HN.out
 |false=>
  replace HT:=hneg HT (by decide)
  go_enter Tryz.func200,Tryz.ntmps200
  go_upto_region 1 with fail
  replace HA:=HA.out.pP (g:=w.heap.size) rfl
  replace HA:=HA.out.pZ (g:=(w.heap.size+1)) (by simp)
  generalize ((w.alloc (.cells #[.pointer (some ⟨E.b,0,none⟩)] 46)).alloc (.cells #[.int .i64 0,.string ⟨#[]⟩,.slice none 0 0,.int .i64 0,.int .i64 0] 27))=w1 at*
  obtain⟨zr,zpb,-⟩:=HA.out.fs
  have yr:=HA.out.fw 0 rfl
  replace HT:=hget HT
  have cEfrom:=HA.out.c_from
  have lE:=HA.out.lt
  go_wp2_with fail
  refine HA.out.stepV HT HN (fun _ h e=>P.must hR.ok ⟨#[99,108,97,115,115]⟩ h.s e) ?_ ?_
  ·intro _ _ _ H;go_wp2_with fail;exact⟨rfl,Ans.badh H⟩
  clear zr zpb yr cEfrom lE HT HA
  intro _ q2 w2 HT HA
  obtain⟨zr,zpb,-⟩:=HA.out.fs
  have yr:=HA.out.fw 0 rfl
  go_wp2_with fail
  replace HA:=HA.out.pZ (g:=w2.heap.size) rfl
  replace HA:=HA.out.pZ (g:=(w2.heap.size+1)) (by simp)
  refine HA.out.stepV HT HN (fun _ h e=>P.peek hR.ok 1 h.s e) ?_ ?_
  ·intro _ _ _ H;go_wp2_with fail;exact⟨rfl,Ans.badh H⟩
  clear zr zpb yr HT HA
  intro tt q3 w3 HT HA
  obtain⟨zsb,zib,zr,zpb,-⟩:=HA.out.fs
  have yr:=HA.out.fw 2 rfl
  go_wp2_with fail
  replace HA:=HA.out.pT (g:=w3.heap.size) rfl tt
  refine HA.out.stepQ (fun _ h=>P.punct tt ⟨#[123]⟩ _) ?_
  clear zsb zib zr zpb yr HA
  intro w4 HA
  obtain⟨ztt,zsb,zib,zr,zpb,-⟩:=HA.out.fs
  have yr:=HA.out.fw 3 rfl
  cases hu:aa2 tt ⟨#[123]⟩ with
  |true=>
   replace HT:=hneg HT (by rw [hu];decide)
   go_wp2_with fail
   refine HA.out.stepV HT HN (fun _ h e=>P.word hR.ok ⟨#[101,120,116,101,110,100,115]⟩ h.s e) ?_ ?_
   ·intro _ _ _ H;go_wp2_with fail;exact⟨rfl,Ans.badh H⟩
   clear ztt zsb zib zr zpb yr HT HA
   intro b q5 w5 HT HA
   obtain⟨ztt,zsb,zib,zr,zpb,-⟩:=HA.out.fs
   have yr:=HA.out.fw 3 rfl
   cases b with
   |true=>
    replace HT:=hpos HT (by rfl)
    exact absurd HT.out.symm HN.out
   |false=>
    replace HT:=hneg HT (by decide)
    go_wp2_with fail
    refine HA.out.stepV HT HN (fun _ h e=>P.want hR.ok ⟨#[123]⟩ h.s e) ?_ ?_
    ·intro _ _ _ H;go_wp2_with fail;exact⟨rfl,Ans.badh H⟩
    clear ztt zsb zib zr zpb yr HT HA
    intro o q6 w6 HT HA
    obtain⟨ztt,zsb,zib,zr,zpb,-⟩:=HA.out.fs
    have yr:=HA.out.fw 3 rfl
    go_wp2_with fail
    clear ztt zsb zib zr zpb yr
    replace HA:=HA.out.row0
    go_loopg [10] f (fun k u wr=>ClL E R F w T p.tok.from' o.from' (w.heap.size) ((w.heap.size+1)) (w2.heap.size) ((w2.heap.size+1)) k u wr)
    case atStart=>exact⟨[],_,HT,HA.out.pick [4,3,2,1] [] (by decide)⟩
    case round=>
     clear HT HA
     obtain⟨lk,q,HT,HA⟩:=hrel
     cases gk with
     |zero=>exact absurd HT.out.symm HN.out
     |succ k=>
      unfold clsL at HT
      have hll:lk.length≤4194304:=by
       by_cases hc:4194304<(lk.map (·.1)).length
       ·rw [if_pos hc] at HT
        exact absurd HT.out.symm HN.out
       ·rw [List.length_map] at hc
        omega
      rw [if_neg (by rw [List.length_map];omega)] at HT
      obtain⟨sa,sc,rfl⟩:=HA.out.rowform
      obtain⟨zpb,zr,zib,zsb,-⟩:=HA.out.fs
      have yr:=HA.out.fw 1 rfl
      go_wp2_with fail
      refine HA.out.stepV HT HN (fun _ h e=>P.is hR.ok ⟨#[125]⟩ h.s e) ?_ ?_
      ·intro _ _ _ H;go_wp2_with fail;exact⟨rfl,Ans.badh H⟩
      clear zpb zr zib zsb yr HT HA
      intro c q7 w7 HT HA
      obtain⟨zpb,zr,zib,zsb,-⟩:=HA.out.fs
      have yr:=HA.out.fw 1 rfl
      cases c with
      |true=>
       replace HT:=hpos HT (by rfl)
       go_wp2_with fail
       refine HA.out.nodeR 25 ⟨#[]⟩ o.from' rfl HT ?_
       clear zpb zr zib zsb yr HT HA
       intro bd abd cbd w8 _ HT HA
       obtain⟨zpb,zr,zib,zsb,-⟩:=HA.out.fs
       have yr:=HA.out.fw 1 rfl
       replace HT:=ac9 HT
       go_wp2_with fail
       replace HA:=HA.out.pN (g:=w8.heap.size) rfl bd abd cbd
       refine HA.out.node 23 ⟨#[]⟩ p.tok.from' [(Nd.zero,none,0),(Nd.zero,none,0),(bd,abd,cbd)] (by simp) rfl (by simp) rfl rfl HT ?_
       clear zpb zr zib zsb yr HT HA
       intro m am cm w9 _ HT HA
       obtain⟨zbd,zpb,zr,zib,zsb,-⟩:=HA.out.fs
       have yr:=HA.out.fw 2 rfl
       go_wp2_with fail
       exact HA.out.fin_nd 2 0 rfl rfl rfl rfl rfl HT.out.symm
      |false=>
       replace HT:=hneg HT (by decide)
       go_wp2_with fail
       refine HA.out.stepV HT HN (fun _ h e=>P.is hR.ok ⟨#[59]⟩ h.s e) ?_ ?_
       ·intro _ _ _ H;go_wp2_with fail;exact⟨rfl,Ans.badh H⟩
       clear zpb zr zib zsb yr HT HA
       intro d q8 w8 HT HA
       obtain⟨zpb,zr,zib,zsb,-⟩:=HA.out.fs
       have yr:=HA.out.fw 1 rfl
       cases d with
       |true=>
        replace HT:=hpos HT (by rfl)
        exact absurd HT.out.symm HN.out
       |false=>
        replace HT:=hneg HT (by decide)
        go_wp2_with fail
        refine HA.out.stepN HT HN (fun _ h e=>hR.h .element2 _ _ _ h.s e) ?_ ?_
        ·intro _ _ _ H;go_wp2_with fail;exact⟨rfl,Ans.badh H⟩
        clear zpb zr zib zsb yr HT HA
        intro kk akk ckk q9 w9 HT HA
        obtain⟨zpb,zr,zib,zsb,-⟩:=HA.out.fs
        have yr:=HA.out.fw 1 rfl
        go_wp2_with (at_builtin;refine aK2 (by rfl) _ _ _ (by rfl) (by kernel_rfl) ak2 HA.out 0 rfl (by rfl) (g:=w9.heap.size) rfl (by rfl) rfl (by omega) ?_;clear zpb zr zib zsb yr HA;intro rr rc w10 HA)
        go_roundg k
        case measure=>exact Nat.lt_succ_self k
        case rel=>exact⟨lk++ [(kk,akk,ckk)],_,by rw [List.map_append];exact HT,HA.out.pick [0,1,2,3] [] (by decide)⟩
  |false=>
   replace HT:=hpos HT (by exact hu)
   exact absurd HT.out.symm HN.out
end
section
open Go.RowKit
attribute [local go_sem] ab3 ab4 ab5 ab6 ab7 ab8
attribute [local go_sem ↓] Go.wp_at_zero Go.wp_at_succ
def aH3 (w:World) (p:Nat) (k:Int) (t:ByteArray) (v:Value) (f u:Int):Prop:=w.heap[p]? =some (.cells #[.int .i64 k,.string t,v,.int .i64 f,.int .i64 u] 213 (0,0))
section
theorem Cd.lay5_block' (w:World) (q:Nat) (u0 u1 u2 u3 u4:Value) (i:Nat) (h:i≠q):(((((w.setCell ⟨q,0,none⟩ u0).setCell ⟨q,1,none⟩ u1).setCell ⟨q,2,none⟩ u2).setCell ⟨q,3,none⟩ u3).setCell ⟨q,4,none⟩ u4).heap[i]? =w.heap[i]? :=by
 rw [Below.heap_setCell _ _ _ _ h,Below.heap_setCell _ _ _ _ h,Below.heap_setCell _ _ _ _ h,Below.heap_setCell _ _ _ _ h,Below.heap_setCell _ _ _ _ h]
theorem bG1 {w W:World} {S:Nat→Prop} {k v:Nd} {bk bv:Option Addr} {ck cv g:Nat} (hkr:RowS w S k.kids bk 0) (hvr:RowS w S v.kids bv 0) (kc:k.kids.length≤ck) (vc:v.kids.length≤cv) (hk: ∀x,S x→W.heap[x]? =w.heap[x]?)
  (hg:W.heap[g]? =some (.cells #[.int .i64 k.kind,.string k.text,.slice bk k.kids.length ck,.int .i64 k.from',.int .i64 k.till,.int .i64 v.kind,.string v.text,.slice bv v.kids.length cv,.int .i64 v.from',.int .i64 v.till] 27 (0,0))):RowS W (fun x=>S x∨x=g) [k,v] (some ⟨g,0,none⟩) 0:=by
 rw [RowS,RowS,RowS]
 refine⟨⟨g,0,rfl,?_⟩,⟨g,0,rfl,?_⟩,trivial⟩
 ·rw [aq2]
  exact⟨bk,ck,.inr rfl,cell_of_row W g 0 _ _ _ hg,cell_of_row W g 1 _ _ _ hg,cell_of_row W g 2 _ _ _ hg,cell_of_row W g 3 _ _ _ hg,cell_of_row W g 4 _ _ _ hg,kc,ab2 (fun _ h=> .inl h) hk hkr⟩
 ·rw [aq2]
  exact⟨bv,cv,.inr rfl,cell_of_row W g 5 _ _ _ hg,cell_of_row W g 6 _ _ _ hg,cell_of_row W g 7 _ _ _ hg,cell_of_row W g 8 _ _ _ hg,cell_of_row W g 9 _ _ _ hg,vc,ab2 (fun _ h=> .inl h) hk hvr⟩
theorem bz7 (k0:Int) (t0:ByteArray) (a:Option Addr) (m0 cap:Nat) (f u:Int) (kind:Int) (b:Option Addr) (m c:Nat) (w:World):
  Calls Tryz.prog 281 #[.agg #[.int .i64 k0,.string t0,.slice a m0 cap,.int .i64 f,.int .i64 u],.int .i64 kind,.slice b m c] w fun e w'=>e= .returned (.agg #[.int .i64 kind,.string ⟨#[]⟩,.slice b m c,.int .i64 f,.int .i64 u])∧Below w.heap.size w w':=by
 go_enter Tryz.func281,Tryz.ntmps281
 go_wp2_with fail
 refine bodyPost_ret (aF3 rfl _ _ (w.heap.size+1) rfl (ab0.new (by simp))) rfl ?_
 exact⟨rfl,Below.alloc (Below.alloc (Below.refl _ w) (Nat.le_refl _) _) (by rw [World.size_alloc];omega) _⟩
theorem aM6 (n:Nd) (a:Option Addr) (cap:Nat) (w:World) (S:Nat→Prop) (hS: ∀k,S k→k<w.heap.size) (hr:RowS w S n.kids a 0) (ht:af1 n=true) (hc:n.kids.length≤cap) (hk:n.kind≠30):
  Calls Tryz.prog 282 #[.agg #[.int .i64 n.kind,.string n.text,.slice a n.kids.length cap,.int .i64 n.from',.int .i64 n.till]] w fun e w'=>e= .returned (.tuple #[.agg #[.int .i64 n.kind,.string n.text,.slice a n.kids.length cap,.int .i64 n.from',.int .i64 n.till],.nilIface])∧Below w.heap.size w w':=by
 have hB:Below w.heap.size w ((w.alloc (.cells #[.int .i64 n.kind,.string n.text,.slice a n.kids.length cap,.int .i64 n.from',.int .i64 n.till] 213)).alloc (.cells #[.int .i64 0,.string ⟨#[]⟩,.slice none 0 0,.int .i64 0,.int .i64 0] 27)):=Below.alloc (Below.alloc (Below.refl _ w) (Nat.le_refl _) _) (by rw [World.size_alloc];omega) _
 have hR:NB ((w.alloc (.cells #[.int .i64 n.kind,.string n.text,.slice a n.kids.length cap,.int .i64 n.from',.int .i64 n.till] 213)).alloc (.cells #[.int .i64 0,.string ⟨#[]⟩,.slice none 0 0,.int .i64 0,.int .i64 0] 27)) (w.heap.size+1):=ab0.nb (ab0.new (by simp))
 have HC:=hJ (aR4 n a cap _ S (fun k hk=>Nat.lt_of_lt_of_le (hS k hk) hB.size) (ab2 (fun _ h=>h) (fun k hk=>hB.block k (hS k hk)) hr) ht hc)
 have hkw:=nt hk
 clear hr ht hS hc hk
 go_enter Tryz.func282,Tryz.ntmps282
 go_upto_region 2 with fail
 go_wp2_with (go_at_call 215;refine HC.out.mono ?_;rintro e w2 ⟨rfl,hb⟩;have HR:=hJ (hR.same (hb.block _ hR.lt));have HB:=hJ (hB.trans (hb.mono hB.size));clear hb HC hR hB;obtain⟨_,_,_,_,_,_,_,_,_,_,_,_,y0,y1,y2,y3,y4⟩:=HR.out.fs)
 refine bodyPost_ret (ay9 rfl _ _ (w.heap.size+1) rfl (HR.out.lay n.kind n.text a n.kids.length cap n.from' n.till)) rfl ?_
 exact⟨rfl,Pc.lay5_bel HB.out (Nat.le_succ _) _ _ _ _ _⟩
theorem bx9 (k v:Nd) (f u:Int) (a:Option Addr) (cap:Nat) (w:World) (S:Nat→Prop) (hS: ∀k,S k→k<w.heap.size) (hr:RowS w S [k,v] a 0) (_:2≤cap) (ht:af1 v=true) (hk:v.kind≠30) (last:Bool):
  Calls Tryz.prog 283 #[.agg #[.int .i64 13,.string ⟨#[]⟩,.slice a 2 cap,.int .i64 f,.int .i64 u],.bool last] w fun e w'=> ∃g,e= .returned (.tuple #[.agg #[.int .i64 44,.string ⟨#[]⟩,.slice (some ⟨g,0,none⟩) 2 2,.int .i64 f,.int .i64 u],.nilIface])∧Below w.heap.size w w'∧w.heap.size≤g∧g<w'.heap.size∧RowS w' (fun x=>S x∨x=g) [k,v] (some ⟨g,0,none⟩) 0:=by
 obtain⟨g0,off,rfl,hk0⟩:=ak4 hr 0 (show 0<2 by decide)
 obtain⟨g1,off1,e1,hv0⟩:=ak4 hr 1 (show 1<2 by decide)
 injection e1 with e1
 injection e1 with e1 e2
 subst e1 e2
 rw [aq2] at hk0 hv0
 obtain⟨bk,ck,sg,k0,k1,k2,k3,k4,kc,kr⟩:=hk0
 obtain⟨bv,cv,_,v0,v1,v2,v3,v4,vc,vr⟩:=hv0
 replace k0:w.cell? ⟨g0,off,none⟩=some (.int .i64 k.kind):=k0
 replace k1:w.cell? ⟨g0,off+1,none⟩=some (.string k.text):=k1
 replace k2:w.cell? ⟨g0,off+2,none⟩=some (.slice bk k.kids.length ck):=k2
 replace k3:w.cell? ⟨g0,off+3,none⟩=some (.int .i64 k.from'):=k3
 replace k4:w.cell? ⟨g0,off+4,none⟩=some (.int .i64 k.till):=k4
 replace v0:w.cell? ⟨g0,off+5,none⟩=some (.int .i64 v.kind):=v0
 replace v1:w.cell? ⟨g0,off+5+1,none⟩=some (.string v.text):=v1
 replace v2:w.cell? ⟨g0,off+5+2,none⟩=some (.slice bv v.kids.length cv):=v2
 replace v3:w.cell? ⟨g0,off+5+3,none⟩=some (.int .i64 v.from'):=v3
 replace v4:w.cell? ⟨g0,off+5+4,none⟩=some (.int .i64 v.till):=v4
 replace kc:k.kids.length≤ck:=kc
 replace kr:RowS w S k.kids bk 0:=kr
 replace vc:v.kids.length≤cv:=vc
 replace vr:RowS w S v.kids bv 0:=vr
 have hgl:g0<w.heap.size:=hS _ sg
 have hB:Below w.heap.size w ((w.alloc (.cells #[.int .i64 13,.string ⟨#[]⟩,.slice (some ⟨g0,off,none⟩) 2 cap,.int .i64 f,.int .i64 u] 213)).alloc (.cells #[.int .i64 0,.string ⟨#[]⟩,.slice none 0 0,.int .i64 0,.int .i64 0] 27)):=Below.alloc (Below.alloc (Below.refl _ w) (Nat.le_refl _) _) (by rw [World.size_alloc];omega) _
 have hR:NB ((w.alloc (.cells #[.int .i64 13,.string ⟨#[]⟩,.slice (some ⟨g0,off,none⟩) 2 cap,.int .i64 f,.int .i64 u] 213)).alloc (.cells #[.int .i64 0,.string ⟨#[]⟩,.slice none 0 0,.int .i64 0,.int .i64 0] 27)) (w.heap.size+1):=ab0.nb (ab0.new (by simp))
 have hN:aH3 ((w.alloc (.cells #[.int .i64 13,.string ⟨#[]⟩,.slice (some ⟨g0,off,none⟩) 2 cap,.int .i64 f,.int .i64 u] 213)).alloc (.cells #[.int .i64 0,.string ⟨#[]⟩,.slice none 0 0,.int .i64 0,.int .i64 0] 27)) w.heap.size 13 ⟨#[]⟩ (.slice (some ⟨g0,off,none⟩) 2 cap) f u:=(Below.heap_alloc _ _ _ (by rw [World.size_alloc];omega)).trans (heap_alloc_new _ _)
 have HC:=hJ (fun W (hW:Below w.heap.size w W)=>aM6 v bv cv W S (fun k hk=>Nat.lt_of_lt_of_le (hS k hk) hW.size) (ab2 (fun _ h=>h) (fun k hk=>hW.block k (hS k hk)) vr) ht vc hk)
 have HKR:=hJ kr
 have HVR:=hJ vr
 have HSS:=hJ hS
 have HB:=hJ hB
 have HRN:=hJ hR
 have HNB:=hJ hN
 have HKS:=hJ (And.intro (And.intro k0 k1) (And.intro k2 (And.intro k3 k4)))
 clear hr ht hk kr vr hS
 go_enter Tryz.func283,Tryz.ntmps283
 go_upto_region 6 with fail
 go_upto_region 7 with (go_at_call 282;refine(HC.out _ HB.out).mono ?_;rintro e w2 ⟨rfl,hb⟩)
 have hal:=ac0 w2 (.cells #[.int .i64 v.kind,.string v.text,.slice bv v.kids.length cv,.int .i64 v.from',.int .i64 v.till] 27)
 have hb3:=aa0 hb hal
 have hN6:ab0 (w2.alloc (.cells #[.int .i64 v.kind,.string v.text,.slice bv v.kids.length cv,.int .i64 v.from',.int .i64 v.till] 27)) w2.heap.size v.kind v.text bv v.kids.length cv v.from' v.till:=ab0.new rfl
 have hbw:=hb.size
 generalize w2.heap.size=g6 at*
 generalize World.alloc w2 _=w3 at*
 have HB3:=hJ (HB.out.trans (hb3.mono HB.out.size))
 have hlw:=HB.out.size
 have hRl:=HRN.out.lt
 have hR3:=HRN.out.same (hb3.block _ hRl)
 have hN3:aH3 w3 w.heap.size 13 ⟨#[]⟩ (.slice (some ⟨g0,off,none⟩) 2 cap) f u:=(hb3.block _ (by omega)).trans HNB.out
 have hkb:w3.heap[g0]? =w.heap[g0]? :=HB3.out.block g0 hgl
 obtain⟨⟨k0,k1⟩,k2,k3,k4⟩:=HKS.out
 replace k0:=(World.cell?_of_block (a:=⟨g0,off,none⟩) hkb).trans k0
 replace k1:=(World.cell?_of_block (a:=⟨g0,off+1,none⟩) hkb).trans k1
 replace k2:=(World.cell?_of_block (a:=⟨g0,off+2,none⟩) hkb).trans k2
 replace k3:=(World.cell?_of_block (a:=⟨g0,off+3,none⟩) hkb).trans k3
 replace k4:=(World.cell?_of_block (a:=⟨g0,off+4,none⟩) hkb).trans k4
 obtain⟨x0,x1,x2,x3,x4,_⟩:=hN6.facts
 have z0:=cell_of_row w3 w.heap.size 0 _ _ _ hN3
 have z1:=cell_of_row w3 w.heap.size 1 _ _ _ hN3
 have z2:=cell_of_row w3 w.heap.size 2 _ _ _ hN3
 have z3:=cell_of_row w3 w.heap.size 3 _ _ _ hN3
 have z4:=cell_of_row w3 w.heap.size 4 _ _ _ hN3
 have hl0:w.heap.size+1<w3.heap.size:=hR3.lt
 have hl1:w.heap.size<w3.heap.size:=by omega
 have hl2:g0<w3.heap.size:=by omega
 have hl6:g6<w3.heap.size:=hN6.lt
 have HR3:=hJ hR3
 clear hb hal hb3 hN6 hR3 hN3 hkb hB hR hN HC HRN HNB HB
 go_region_with (go_at_call 281;refine(bz7 _ _ _ _ _ _ _ _ _ _ _ _).mono ?_;rintro e w5 ⟨rfl,hb5⟩;have hR5:=NB.same (w':=w5) (HR3.out.alloc (.cells #[.int .i64 k.kind,.string k.text,.slice bk k.kids.length ck,.int .i64 k.from',.int .i64 k.till,.int .i64 v.kind,.string v.text,.slice bv v.kids.length cv,.int .i64 v.from',.int .i64 v.till] 27)) (hb5.block _ (HR3.out.alloc _).lt);have l5:=hR5.lt;obtain⟨_,_,_,_,_,_,_,_,_,_,_,_,y0,y1,y2,y3,y4⟩:=hR5.fs)
 all_goals
  go_wp2_with fail
  refine bodyPost_ret (ay9 rfl _ _ (w.heap.size+1) rfl (hR5.lay 44 ⟨#[]⟩ (some ⟨w3.heap.size,0,none⟩) 2 2 f u)) rfl ?_
  have hb8:Below w.heap.size w w5:=(HB3.out.alloc HB3.out.size (.cells #[.int .i64 k.kind,.string k.text,.slice bk k.kids.length ck,.int .i64 k.from',.int .i64 k.till,.int .i64 v.kind,.string v.text,.slice bv v.kids.length cv,.int .i64 v.from',.int .i64 v.till] 27)).drew.trans (hb5.mono (show w.heap.size≤(World.alloc w3 _).heap.size by rw [World.size_alloc];have:=HB3.out.size;omega))
  have hg:w5.heap[w3.heap.size]? =some (.cells #[.int .i64 k.kind,.string k.text,.slice bk k.kids.length ck,.int .i64 k.from',.int .i64 k.till,.int .i64 v.kind,.string v.text,.slice bv v.kids.length cv,.int .i64 v.from',.int .i64 v.till] 27 (0,0)):=(hb5.block w3.heap.size (by show w3.heap.size<(World.alloc _ _).heap.size;rw [World.size_alloc];omega)).trans (heap_alloc_new _ _)
  have hz5:w3.heap.size<w5.heap.size:=(Array.getElem?_eq_some_iff.1 hg).1
  refine⟨w3.heap.size,rfl,Pc.lay5_bel hb8 (Nat.le_succ _) _ _ _ _ _,HB3.out.size,?_,?_⟩
  ·simp only [World.size_setCell]
   exact hz5
  ·refine bG1 HKR.out HVR.out kc vc (fun x hx=> ?_) ?_
   ·have:=HSS.out x hx
    exact(Pc.lay5_bel hb8 (Nat.le_succ _) _ _ _ _ _).block x this
   ·rw [Cd.lay5_block' _ _ _ _ _ _ _ _ (by omega)]
    exact hg
end
end
section
open Go.RowKit
attribute [local go_sem] ab3 ab4 ab5 ab6 ab7 ab8
attribute [local go_sem ↓] Go.wp_at_zero Go.wp_at_succ
section
theorem bj0 {w:World} {g o:Nat} {v:Value} (h:w.cell? ⟨g,o,none⟩=some v):g<w.heap.size:=by
 by_cases hg:g<w.heap.size
 ·exact hg
 ·have e:w.heap[g]? =none:=Array.getElem?_eq_none (by omega)
  unfold World.cell? at h
  simp [e] at h
theorem be7 (t0:ByteArray) (k v:Nd) (f u fr ti:Int) (a:Option Addr) (cap:Nat) (w:World) (S:Nat→Prop) (hS: ∀k,S k→k<w.heap.size) (hr:RowS w S [.mk 13 ⟨#[]⟩ [k,v] f u] a 0) (_:1≤cap) (ht:af1 v=true) (hk:v.kind≠30):
  Calls Tryz.prog 251 #[.agg #[.int .i64 12,.string t0,.slice a 1 cap,.int .i64 fr,.int .i64 ti]] w fun e w'=> ∃g c,e= .returned (.tuple #[.agg #[.int .i64 43,.string ⟨#[]⟩,.slice (some ⟨g,0,none⟩) 1 c,.int .i64 fr,.int .i64 ti],.nilIface])∧1≤c∧Below w.heap.size w w'∧RowS w' (fun x=>S x∨(w.heap.size≤x∧x<w'.heap.size)) [.mk 44 ⟨#[]⟩ [k,v] f u] (some ⟨g,0,none⟩) 0:=by
 obtain⟨g0,off,rfl,hp0⟩:=ak4 hr 0 (show 0<1 by decide)
 rw [aq2] at hp0
 obtain⟨bp,cp,sg,p0,p1,p2,p3,p4,pc,pr⟩:=hp0
 replace p0:w.cell? ⟨g0,off,none⟩=some (.int .i64 13):=p0
 replace p1:w.cell? ⟨g0,off+1,none⟩=some (.string ⟨#[]⟩):=p1
 replace p2:w.cell? ⟨g0,off+2,none⟩=some (.slice bp 2 cp):=p2
 replace p3:w.cell? ⟨g0,off+3,none⟩=some (.int .i64 f):=p3
 replace p4:w.cell? ⟨g0,off+4,none⟩=some (.int .i64 u):=p4
 replace pc:2≤cp:=pc
 replace pr:RowS w S [k,v] bp 0:=pr
 have hgl:g0<w.heap.size:=hS _ sg
 have HP:=hJ (fun W (hW:Below w.heap.size w W) last=>bx9 k v f u bp cp W S (fun k hk=>Nat.lt_of_lt_of_le (hS k hk) hW.size) (ab2 (fun _ h=>h) (fun k hk=>hW.block k (hS k hk)) pr) pc ht hk last)
 have HSS:=hJ hS
 have hnil: ∀W:World,(binOp BinOp.neq 106 .nilIface .nilIface).run Tryz.prog W= .ok (.bool false) W:=fun _=>by kernel_rfl
 obtain⟨i0,hi,hz0,hz1,hz2⟩:=info_parts ak2
 clear hr ht hk hS pr
 go_enter Tryz.func251,Tryz.ntmps251
 go_upto_region 2 with (go_at_call 281;refine(bz7 _ _ _ _ _ _ _ _ _ _ _ _).mono ?_;rintro e w2 ⟨rfl,hb2⟩)
 have hW1:Below w.heap.size w ((w.alloc (.cells #[.int .i64 12,.string t0,.slice (some ⟨g0,off,none⟩) 1 cap,.int .i64 fr,.int .i64 ti] 213)).alloc (.cells #[.int .i64 0,.string ⟨#[]⟩,.slice none 0 0,.int .i64 0,.int .i64 0] 27)):=Below.alloc (Below.alloc (Below.refl _ w) (Nat.le_refl _) _) (by rw [World.size_alloc];omega) _
 have hR1:NB ((w.alloc (.cells #[.int .i64 12,.string t0,.slice (some ⟨g0,off,none⟩) 1 cap,.int .i64 fr,.int .i64 ti] 213)).alloc (.cells #[.int .i64 0,.string ⟨#[]⟩,.slice none 0 0,.int .i64 0,.int .i64 0] 27)) (w.heap.size+1):=ab0.nb (ab0.new (by simp))
 have hN1:aH3 ((w.alloc (.cells #[.int .i64 12,.string t0,.slice (some ⟨g0,off,none⟩) 1 cap,.int .i64 fr,.int .i64 ti] 213)).alloc (.cells #[.int .i64 0,.string ⟨#[]⟩,.slice none 0 0,.int .i64 0,.int .i64 0] 27)) w.heap.size 12 t0 (.slice (some ⟨g0,off,none⟩) 1 cap) fr ti:=(Below.heap_alloc _ _ _ (by rw [World.size_alloc];omega)).trans (heap_alloc_new _ _)
 have hal:=ac0 w2 (.cells #[.int .i64 43,.string ⟨#[]⟩,.slice none 0 0,.int .i64 fr,.int .i64 ti] 27)
 have hb3:=aa0 hb2 hal
 have hW3:=hW1.trans (hb3.mono hW1.size)
 have hR3:=hR1.same (hb3.block _ hR1.lt)
 have hN3:aH3 (w2.alloc (.cells #[.int .i64 43,.string ⟨#[]⟩,.slice none 0 0,.int .i64 fr,.int .i64 ti] 27)) w.heap.size 12 t0 (.slice (some ⟨g0,off,none⟩) 1 cap) fr ti:=(hb3.block _ (by rw [World.size_alloc,World.size_alloc];omega)).trans hN1
 have hO3:ab0 (w2.alloc (.cells #[.int .i64 43,.string ⟨#[]⟩,.slice none 0 0,.int .i64 fr,.int .i64 ti] 27)) w2.heap.size 43 ⟨#[]⟩ none 0 0 fr ti:=ab0.new rfl
 have hg4:w.heap.size+2≤w2.heap.size:=by have:=hb2.size;rw [World.size_alloc,World.size_alloc] at this;omega
 generalize w2.heap.size=g4 at*
 generalize World.alloc w2 _=w3 at*
 have HW3:=hJ hW3
 have HR3:=hJ hR3
 have HN3:=hJ hN3
 have HO3:=hJ hO3
 have z0:=cell_of_row w3 w.heap.size 0 _ _ _ hN3
 have z1:=cell_of_row w3 w.heap.size 1 _ _ _ hN3
 have z2:=cell_of_row w3 w.heap.size 2 _ _ _ hN3
 have z3:=cell_of_row w3 w.heap.size 3 _ _ _ hN3
 have z4:=cell_of_row w3 w.heap.size 4 _ _ _ hN3
 have hkb:w3.heap[g0]? =w.heap[g0]? :=hW3.block g0 hgl
 have q0:=(World.cell?_of_block (a:=⟨g0,off,none⟩) hkb).trans p0
 have q1:=(World.cell?_of_block (a:=⟨g0,off+1,none⟩) hkb).trans p1
 have q2:=(World.cell?_of_block (a:=⟨g0,off+2,none⟩) hkb).trans p2
 have q3:=(World.cell?_of_block (a:=⟨g0,off+3,none⟩) hkb).trans p3
 have q4:=(World.cell?_of_block (a:=⟨g0,off+4,none⟩) hkb).trans p4
 have hl1:w.heap.size<w3.heap.size:=Nat.lt_of_lt_of_le (by omega) hO3.lt
 have hl2:g0<w3.heap.size:=by omega
 clear hW1 hR1 hN1 hal hb3 hW3 hR3 hN3 hO3 hb2 hkb p0 p1 p2 p3 p4
 go_wp2_with fail
 go_loopw [5,6,7,8,14] (fun _ _ _ _ i wr=>(i= .int .i64 0∧w3=wr)∨(i= .int .i64 1∧∃g c,1≤c∧Below w.heap.size w wr∧NB wr (w.heap.size+1)∧ab0 wr g4 43 ⟨#[]⟩ (some ⟨g,0,none⟩) 1 c fr ti∧RowS wr (fun x=>S x∨(w.heap.size+2≤x∧x<wr.heap.size)) [.mk 44 ⟨#[]⟩ [k,v] f u] (some ⟨g,0,none⟩) 0)) (fun _ _ _ _ i _=>1 - (intOf i).toNat)
 case atStart=>exact .inl ⟨rfl,rfl⟩
 case round=>
  rcases hrel with ⟨rfl,hw⟩|⟨rfl,g,c,h1,h2,h3,h4,h5⟩
  ·subst hw
   go_upto_region 5 with fail
   have hb4:=ac0 w3 (.cells #[.int .i64 13,.string ⟨#[]⟩,.slice bp 2 cp,.int .i64 f,.int .i64 u] 27)
   have HB4:=hJ (HW3.out.trans (hb4.mono HW3.out.size))
   clear hb4
   go_upto_region 6 with (go_at_call 283;refine(HP.out _ HB4.out _).mono ?_;rintro e w5 ⟨g7,rfl,hb5,hg7,hg8,hrow⟩)
   have hz4:(w3.alloc (.cells #[.int .i64 13,.string ⟨#[]⟩,.slice bp 2 cp,.int .i64 f,.int .i64 u] 27)).heap.size=w3.heap.size+1:=World.size_alloc _ _
   have hb35:Below w3.heap.size w3 w5:=(ac0 w3 _).trans (hb5.mono (by rw [hz4];omega))
   have hb6:=ac0 w5 (.cells #[.int .i64 44,.string ⟨#[]⟩,.slice (some ⟨g7,0,none⟩) 2 2,.int .i64 f,.int .i64 u] 27)
   have hN7:ab0 (w5.alloc (.cells #[.int .i64 44,.string ⟨#[]⟩,.slice (some ⟨g7,0,none⟩) 2 2,.int .i64 f,.int .i64 u] 27)) w5.heap.size 44 ⟨#[]⟩ (some ⟨g7,0,none⟩) 2 2 f u:=ab0.new rfl
   have hrow7:=ab2 (S':=fun x=>S x∨x=g7) (fun _ h=>h) (fun x hx=>hb6.block x (by rcases hx with hx|hx;have:=HSS.out x hx;have:=hb35.size;omega;rw [hx];exact hg8)) hrow
   have hb36:=aa0 hb35 hb6
   have hsz5:(w5.alloc (.cells #[.int .i64 44,.string ⟨#[]⟩,.slice (some ⟨g7,0,none⟩) 2 2,.int .i64 f,.int .i64 u] 27)).heap.size=w5.heap.size+1:=World.size_alloc _ _
   have hg79:w3.heap.size≤g7:=by rw [hz4] at hg7;omega
   generalize w5.heap.size=g9 at*
   generalize World.alloc w5 _=w6 at*
   have HROW:=hJ hrow7
   have HB36:=hJ hb36
   have hO6:ab0 w6 g4 43 ⟨#[]⟩ none 0 0 fr ti:=(hb36.block g4 HO3.out.lt).trans HO3.out
   have HO6:=hJ hO6
   have HR6:=hJ (HR3.out.same (hb36.block _ HR3.out.lt))
   obtain⟨_,_,x2,_,_,_,_,y2,_,_⟩:=hO6.facts
   obtain⟨v0,v1,v2,v3,v4,_⟩:=hN7.facts
   have l6:=hO6.lt
   have HZ5:=hJ hsz5
   clear hb35 hb36 hb6 hN7 hrow hrow7 hb5 hO6 hg7 q0 q1 q2 q3 q4 hz4 HB4 hsz5
   go_upto_region 8 with fail
   go_wp2_with (at_builtin;refine wpList_append_own_at _ rfl _ _ 25 rfl w6.heap.size 27 i0 (.agg #[.int .i64 0,.string ⟨#[]⟩,.slice none 0 0,.int .i64 0,.int .i64 0]) 5 64 (by kernel_rfl) hi hz0 hz1 hz2 rfl (by decide) _ _ _ rfl ((World.ownsRow_nil _ _ _ _).alloc _) ⟨w6.heap.size,0,none⟩ 1 1 [.int .i64 44,.string ⟨#[]⟩,.slice (some ⟨g7,0,none⟩) 2 2,.int .i64 f,.int .i64 u] rfl rfl (World.news_of_block (heap_alloc_new _ _)) Cd.five_one (by unfold maxLen;omega) (by omega) (by rw [World.size_alloc];omega) ?_)
   intro v9 w9 hown hgrow _ _
   obtain⟨g,c,rfl,hgb,hc9,hcl⟩: ∃g c,v9= .slice (some ⟨g,0,none⟩) 1 c∧w6.heap.size≤g∧1≤c∧∀j,j<5→w9.cell? ⟨g,j,none⟩=([.int .i64 44,.string ⟨#[]⟩,.slice (some ⟨g7,0,none⟩) 2 2,.int .i64 f,.int .i64 u]:List Value)[j]? :=by
    rcases hown.2 with ⟨_,h0⟩|⟨g,c,cur,e,hg,_,hn,_⟩
    ·cases h0
    ·refine⟨g,c,e,hg,hn,fun j hj=> ?_⟩
     rw [e] at hown
     exact hown.cellAt j (by omega)
   have hzA:(w6.alloc (.cells #[.int .i64 44,.string ⟨#[]⟩,.slice (some ⟨g7,0,none⟩) 2 2,.int .i64 f,.int .i64 u] 27)).heap.size=w6.heap.size+1:=World.size_alloc _ _
   have hkp: ∀x,x<w6.heap.size→w9.heap[x]? =w6.heap[x]? :=fun x hx=>(hgrow.block x (by rw [hzA];omega) (by simp [Value.ownBlock])).trans (Below.heap_alloc _ _ _ hx)
   have hsz9:w6.heap.size+1≤w9.heap.size:=by have:=hgrow.size;rw [hzA] at this;exact this
   have hb69:Below w6.heap.size w6 w9:=((Below.refl _ w6).alloc (Nat.le_refl _) _).grown hgrow (by rw [hzA];omega) (fun k hk=>by cases hk)
   have hO9:ab0 w9 g4 43 ⟨#[]⟩ none 0 0 fr ti:=(hkp g4 l6).trans HO6.out
   have hR9:NB w9 (w.heap.size+1):=HR6.out.same (hkp _ HR6.out.lt)
   have hgl9:g<w9.heap.size:=by
    have h:=hcl 0 (by decide)
    exact bj0 h
   have HCL:=hJ hcl
   have HKP:=hJ hkp
   have HO9:=hJ hO9
   have HR9:=hJ hR9
   have HB9:=hJ hb69
   obtain⟨_,_,e2,_,_,_,_,f2,_,_⟩:=hO9.facts
   have l9:=hO9.lt
   clear hown hgrow hzA hkp hb69 hO9 hR9 hcl v0 v1 v2 v3 v4 x2 y2
   go_wp2_with fail
   go_roundw
   case rel=>
    have hb9w:Below w.heap.size w w9:=(HW3.out.trans (HB36.out.mono HW3.out.size)).trans (HB9.out.mono (by have:=HW3.out.size;have:=HB36.out.size;omega))
    have hlw3:=HW3.out.size
    have hl36:=HB36.out.size
    have hg4w:w3.heap.size>g4:=HO3.out.lt
    have hne: ∀o,(⟨g4,2,none⟩:Addr)≠⟨g,o,none⟩:=fun o e=>by injection e with e;omega
    have hcw: ∀j,j<5→(w9.setCell ⟨g4,2,none⟩ (.slice (some ⟨g,0,none⟩) 1 c)).cell? ⟨g,j,none⟩=([.int .i64 44,.string ⟨#[]⟩,.slice (some ⟨g7,0,none⟩) 2 2,.int .i64 f,.int .i64 u]:List Value)[j]? :=fun j hj=>by
     rw [World.cell?_setCell_other _ _ _ _ (hne j)]
     exact HCL.out j hj
    have hkw: ∀x,x<w6.heap.size→x≠g4→(w9.setCell ⟨g4,2,none⟩ (.slice (some ⟨g,0,none⟩) 1 c)).heap[x]? =w6.heap[x]? :=fun x hx hn=>(Below.heap_setCell _ _ _ _ hn).trans (HKP.out x hx)
    refine .inr ⟨rfl,g,c,hc9,hb9w.setCell (p:=⟨g4,2,none⟩) (by show w.heap.size≤g4;omega) _,HR9.out.same (Below.heap_setCell _ _ _ _ (by show w.heap.size+1≠g4;omega)),?_,?_⟩
    ·have h:=heap_setCell_same w9 g4 2 _ _ (.slice (some ⟨g,0,none⟩) 1 c) HO9.out
     have h2:(w9.setCell ⟨g4,2,none⟩ (.slice (some ⟨g,0,none⟩) 1 c)).heap[g4]? =some (.cells #[.int .i64 43,.string ⟨#[]⟩,.slice (some ⟨g,0,none⟩) 1 c,.int .i64 fr,.int .i64 ti] 27 (0,0)):=h
     exact h2
    ·rw [RowS,RowS]
     refine⟨⟨g,0,rfl,?_⟩,trivial⟩
     rw [aq2]
     refine⟨some ⟨g7,0,none⟩,2,.inr ⟨by omega,by simp only [World.size_setCell];exact hgl9⟩,hcw 0 (by decide),hcw 1 (by decide),hcw 2 (by decide),hcw 3 (by decide),hcw 4 (by decide),Nat.le_refl _,?_⟩
     refine ab2 (fun x hx=> ?_) (fun x hx=> ?_) HROW.out
     ·rcases hx with hx|rfl
      ·exact .inl hx
      ·exact .inr ⟨by omega,by simp only [World.size_setCell];have:=HZ5.out;omega⟩
     ·rcases hx with hx|rfl
      ·have:=HSS.out x hx
       exact hkw x (by omega) (by omega)
      ·exact hkw x (by have:=HZ5.out;omega) (by omega)
   case measure=>simp [intOf]
  ·obtain⟨_,_,_,_,_,_,_,_,_,_,_,_,y0,y1,y2,y3,y4⟩:=h3.fs
   obtain⟨e0,e1,e2,e3,e4,_⟩:=h4.facts
   have l4:=h4.lt
   have lr:=h3.lt
   have H2:=hJ h2
   have H3:=hJ h3
   have H5:=hJ h5
   clear h2 h3 h4 h5
   go_wp2_with fail
   refine bodyPost_ret (ay9 rfl _ _ (w.heap.size+1) rfl (H3.out.lay 43 ⟨#[]⟩ (some ⟨g,0,none⟩) 1 c fr ti)) rfl ?_
   refine⟨g,c,rfl,h1,Pc.lay5_bel H2.out (Nat.le_succ _) _ _ _ _ _,ab2 (fun x hx=> ?_) (fun x hx=>Cd.lay5_block' _ _ _ _ _ _ _ _ ?_) H5.out⟩
   ·rcases hx with hx|hx
    ·exact .inl hx
    ·exact .inr ⟨by omega,by simp only [World.size_setCell];exact hx.2⟩
   ·rcases hx with hx|hx
    ·have:=HSS.out x hx;omega
    ·omega
theorem aN4 {n m:Nd} (h:ay3 n=some m): ∃(t0:ByteArray) (k v:Nd) (f u fr ti:Int),n= .mk 12 t0 [.mk 13 ⟨#[]⟩ [k,v] f u] fr ti∧m= .mk 43 ⟨#[]⟩ [.mk 44 ⟨#[]⟩ [k,v] f u] fr ti∧af1 v=true∧v.kind≠30∧aa4 n≤4194304:=by
 unfold ay3 at h
 split at h
 ·cases h
 ·rename_i hk
  split at h
  ·rename_i t k v f u hks
   split at h
   ·rename_i hc
    obtain⟨rfl,h2,h3,h4⟩:=hc
    injection h with h
    subst h
    cases n with
    |mk kk tt ks fr ti=>
     obtain rfl:kk=12:=Decidable.byContradiction hk
     obtain rfl:ks=_:=hks
     exact⟨tt,k,v,f,u,fr,ti,rfl,rfl,h2,h3,h4⟩
   ·cases h
  ·cases h
theorem be6 (t:ByteArray) (ks:List Nd) (f u:Int):af1 (.mk 12 t ks f u)=false:=by
 unfold af1
 rw [aa4]
 rw [Nat.add_comm,aG3]
 rw [if_neg (by show¬((12:Int)=26∧_);omega)]
 unfold aJ0
 rw [if_neg (by show¬(12:Int)=1;decide),if_neg (by show¬((12:Int)=38∨(12:Int)=39);decide)]
theorem bq8 (t0:ByteArray) (k v:Nd) (f u fr ti:Int) (a:Option Addr) (cap:Nat) (w:World) (S:Nat→Prop) (hS: ∀k,S k→k<w.heap.size) (hr:RowS w S [.mk 13 ⟨#[]⟩ [k,v] f u] a 0) (hc:1≤cap) (ht:af1 v=true) (hk:v.kind≠30):
  Calls Tryz.prog 215 #[.agg #[.int .i64 12,.string t0,.slice a 1 cap,.int .i64 fr,.int .i64 ti]] w fun e w'=> ∃g c,e= .returned (.tuple #[.agg #[.int .i64 43,.string ⟨#[]⟩,.slice (some ⟨g,0,none⟩) 1 c,.int .i64 fr,.int .i64 ti],.nilIface])∧1≤c∧Below w.heap.size w w'∧RowS w' (fun x=>S x∨(w.heap.size≤x∧x<w'.heap.size)) [.mk 44 ⟨#[]⟩ [k,v] f u] (some ⟨g,0,none⟩) 0:=by
 have hB:Below w.heap.size w (((w.alloc (.cells #[.int .i64 12,.string t0,.slice a 1 cap,.int .i64 fr,.int .i64 ti] 213)).alloc (.cells #[.int .i64 0,.string ⟨#[]⟩,.slice none 0 0,.int .i64 0,.int .i64 0] 27)).alloc (.cells #[.int .i64 12,.string t0,.slice a 1 cap,.int .i64 fr,.int .i64 ti] 27)):=Below.alloc (Below.alloc (Below.alloc (Below.refl _ w) (Nat.le_refl _) _) (by rw [World.size_alloc];omega) _) (by rw [World.size_alloc,World.size_alloc];omega) _
 have hR:NB (((w.alloc (.cells #[.int .i64 12,.string t0,.slice a 1 cap,.int .i64 fr,.int .i64 ti] 213)).alloc (.cells #[.int .i64 0,.string ⟨#[]⟩,.slice none 0 0,.int .i64 0,.int .i64 0] 27)).alloc (.cells #[.int .i64 12,.string t0,.slice a 1 cap,.int .i64 fr,.int .i64 ti] 27)) (w.heap.size+1):=(ab0.nb (ab0.new (by simp):ab0 ((w.alloc (.cells #[.int .i64 12,.string t0,.slice a 1 cap,.int .i64 fr,.int .i64 ti] 213)).alloc (.cells #[.int .i64 0,.string ⟨#[]⟩,.slice none 0 0,.int .i64 0,.int .i64 0] 27)) (w.heap.size+1) 0 ⟨#[]⟩ none 0 0 0 0)).alloc _
 have hN:ab0 (((w.alloc (.cells #[.int .i64 12,.string t0,.slice a 1 cap,.int .i64 fr,.int .i64 ti] 213)).alloc (.cells #[.int .i64 0,.string ⟨#[]⟩,.slice none 0 0,.int .i64 0,.int .i64 0] 27)).alloc (.cells #[.int .i64 12,.string t0,.slice a 1 cap,.int .i64 fr,.int .i64 ti] 27)) (w.heap.size+1+1) 12 t0 a 1 cap fr ti:=ab0.new (by simp)
 have hQ:aH3 (((w.alloc (.cells #[.int .i64 12,.string t0,.slice a 1 cap,.int .i64 fr,.int .i64 ti] 213)).alloc (.cells #[.int .i64 0,.string ⟨#[]⟩,.slice none 0 0,.int .i64 0,.int .i64 0] 27)).alloc (.cells #[.int .i64 12,.string t0,.slice a 1 cap,.int .i64 fr,.int .i64 ti] 27)) w.heap.size 12 t0 (.slice a 1 cap) fr ti:=((Below.heap_alloc _ _ _ (by rw [World.size_alloc,World.size_alloc];omega)).trans (Below.heap_alloc _ _ _ (by rw [World.size_alloc];omega))).trans (heap_alloc_new _ _)
 have HC:=hJ (fun W (hW:Below w.heap.size w W)=>am3 (.mk 12 t0 [.mk 13 ⟨#[]⟩ [k,v] f u] fr ti) (.agg #[.int .i64 12,.string t0,.slice a 1 cap,.int .i64 fr,.int .i64 ti]) W S (fun k hk=>Nat.lt_of_lt_of_le (hS k hk) hW.size) ⟨a,cap,rfl,hc,ab2 (fun _ h=>h) (fun k hk=>hW.block k (hS k hk)) hr⟩)
 rw [be6] at HC
 have HO:=hJ (fun W (hW:Below w.heap.size w W)=>be7 t0 k v f u fr ti a cap W S (fun k hk=>Nat.lt_of_lt_of_le (hS k hk) hW.size) (ab2 (fun _ h=>h) (fun k hk=>hW.block k (hS k hk)) hr) hc ht hk)
 have HSS:=hJ hS
 have HB:=hJ hB
 have HR:=hJ hR
 have HN:=hJ hN
 have HQ:=hJ hQ
 clear hr ht hk hS hB hR hN hQ
 go_enter Tryz.func215,Tryz.ntmps215
 go_wp2_with (first
  |(go_at_call 150;refine(HC.out _ HB.out).mono ?_;rintro e w2 ⟨rfl,hb⟩;have HB2:=hJ (HB.out.trans (hb.mono HB.out.size));have HR2:=hJ (HR.out.same (hb.block _ HR.out.lt));have hN2:=HN.out.same (hb.block _ HN.out.lt);have hQ2:aH3 w2 w.heap.size 12 t0 (.slice a 1 cap) fr ti:=(hb.block _ (Nat.lt_of_lt_of_le (Nat.lt_succ_self _) (Nat.le_of_lt HR.out.lt))).trans HQ.out;obtain⟨x0,x1,x2,x3,x4,_⟩:=hN2.facts;have z0:=cell_of_row w2 w.heap.size 0 _ _ _ hQ2;have z1:=cell_of_row w2 w.heap.size 1 _ _ _ hQ2;have z2:=cell_of_row w2 w.heap.size 2 _ _ _ hQ2;have z3:=cell_of_row w2 w.heap.size 3 _ _ _ hQ2;have z4:=cell_of_row w2 w.heap.size 4 _ _ _ hQ2;clear hb hN2 hQ2)
  |(go_at_call 251;refine(HO.out _ HB2.out).mono ?_;rintro e w3 ⟨g,c,rfl,h1,hb3,hrow⟩;have HR3:=hJ (HR2.out.same (hb3.block _ HR2.out.lt));have l3:=HR3.out.lt;obtain⟨_,_,_,_,_,_,_,_,_,_,_,_,y0,y1,y2,y3,y4⟩:=HR3.out.fs))
 refine bodyPost_ret (ay9 rfl _ _ (w.heap.size+1) rfl (HR3.out.lay 43 ⟨#[]⟩ (some ⟨g,0,none⟩) 1 c fr ti)) rfl ?_
 have hs2:=HB2.out.size
 have hsr:=HR2.out.lt
 refine⟨g,c,rfl,h1,Pc.lay5_bel (HB2.out.trans (hb3.mono hs2)) (Nat.le_succ _) _ _ _ _ _,ab2 (fun x hx=> ?_) (fun x hx=>Cd.lay5_block' _ _ _ _ _ _ _ _ ?_) hrow⟩
 ·rcases hx with hx|hx
  ·exact .inl hx
  ·exact .inr ⟨by omega,by simp only [World.size_setCell];exact hx.2⟩
 ·rcases hx with hx|hx
  ·have:=HSS.out x hx;omega
  ·omega
theorem aR6 (n m:Nd) (a:Option Addr) (cap:Nat) (w:World) (S:Nat→Prop) (hS: ∀k,S k→k<w.heap.size) (hr:RowS w S n.kids a 0) (hc:n.kids.length≤cap) (hm:ay3 n=some m):
  Calls Tryz.prog 154 #[.agg #[.int .i64 n.kind,.string n.text,.slice a n.kids.length cap,.int .i64 n.from',.int .i64 n.till]] w fun e w'=> ∃u L,e= .returned (.tuple #[u,.int .i64 0,.int .i64 0])∧w.heap.size≤L∧NdV w' L w'.heap.size m u∧Below w.heap.size w w':=by
 obtain⟨t0,k,v,f,u,fr,ti,rfl,rfl,ht,hk,hsz⟩:=aN4 hm
 replace hr:RowS w S [.mk 13 ⟨#[]⟩ [k,v] f u] a 0:=hr
 replace hc:1≤cap:=hc
 have hB:Below w.heap.size w ((w.alloc (.cells #[.int .i64 12,.string t0,.slice a 1 cap,.int .i64 fr,.int .i64 ti] 27)).alloc (.cells #[.int .i64 0,.string ⟨#[]⟩,.slice none 0 0,.int .i64 0,.int .i64 0] 27)):=Below.alloc (Below.alloc (Below.refl _ w) (Nat.le_refl _) _) (by rw [World.size_alloc];omega) _
 have hR:NB ((w.alloc (.cells #[.int .i64 12,.string t0,.slice a 1 cap,.int .i64 fr,.int .i64 ti] 27)).alloc (.cells #[.int .i64 0,.string ⟨#[]⟩,.slice none 0 0,.int .i64 0,.int .i64 0] 27)) (w.heap.size+1):=ab0.nb (ab0.new (by simp))
 have HC:=hJ (fun W (hW:Below w.heap.size w W)=>bq8 t0 k v f u fr ti a cap W S (fun k hk=>Nat.lt_of_lt_of_le (hS k hk) hW.size) (ab2 (fun _ h=>h) (fun k hk=>hW.block k (hS k hk)) hr) hc ht hk)
 have hnil: ∀W:World,(binOp BinOp.neq 106 .nilIface .nilIface).run Tryz.prog W= .ok (.bool false) W:=fun _=>by kernel_rfl
 have HSS:=hJ hS
 have HB:=hJ hB
 have HR:=hJ hR
 have HSZ:=hJ hsz
 clear hr ht hk hS hB hR hsz hm
 show Calls Tryz.prog 154 #[.agg #[.int .i64 12,.string t0,.slice a 1 cap,.int .i64 fr,.int .i64 ti]] w _
 go_enter Tryz.func154,Tryz.ntmps154
 go_wp2_with fail
 refine(HC.out _ HB.out).mono ?_
 rintro e w2 ⟨g,c,rfl,h1,hb,hrow⟩
 have hR:=HR.out.same (hb.block _ HR.out.lt)
 have hB:=HB.out.trans (hb.mono HB.out.size)
 have hal:=ac0 w2 (.cells #[.int .i64 43,.string ⟨#[]⟩,.slice (some ⟨g,0,none⟩) 1 c,.int .i64 fr,.int .i64 ti] 27)
 have hzB:=HB.out.size
 have e9:aa4 (.mk 43 ⟨#[]⟩ [.mk 44 ⟨#[]⟩ [k,v] f u] fr ti)=aa4 (.mk 12 t0 [.mk 13 ⟨#[]⟩ [k,v] f u] fr ti):=by simp only [aa4,ag7]
 have hrow2:RowS w2 (fun x=>x<w2.heap.size) [.mk 44 ⟨#[]⟩ [k,v] f u] (some ⟨g,0,none⟩) 0:=ab2 (fun x hx=>by
  rcases hx with hx|hx
  ·have:=HSS.out x hx
   have:=hB.size
   omega
  ·exact hx.2) (fun _ _=>rfl) hrow
 have HD:=hJ (bd3 (.mk 43 ⟨#[]⟩ [.mk 44 ⟨#[]⟩ [k,v] f u] fr ti) (some ⟨g,0,none⟩) c (w2.alloc (.cells #[.int .i64 43,.string ⟨#[]⟩,.slice (some ⟨g,0,none⟩) 1 c,.int .i64 fr,.int .i64 ti] 27)) (fun x=>x<w2.heap.size) (fun x hx=>Nat.lt_of_lt_of_le hx hal.size) h1 (ab2 (fun _ h=>h) (fun x hx=>hal.block x hx) hrow2) (by rw [e9];exact HSZ.out))
 replace HR:=hJ (hR.alloc (.cells #[.int .i64 43,.string ⟨#[]⟩,.slice (some ⟨g,0,none⟩) 1 c,.int .i64 fr,.int .i64 ti] 27))
 replace HB:=hJ (hB.alloc hB.size (.cells #[.int .i64 43,.string ⟨#[]⟩,.slice (some ⟨g,0,none⟩) 1 c,.int .i64 fr,.int .i64 ti] 27))
 clear hrow hrow2 hal hR hB HC hb hzB e9
 go_wp2_with fail
 refine HD.out.mono ?_
 rintro e w3 ⟨u',rfl,hv,hb⟩
 have hR:=HR.out.same (hb.block _ HR.out.lt)
 have hL:=HB.out.size
 have HLT:=hJ HR.out.lt
 replace HB:=hJ (HB.out.trans (hb.mono HB.out.size))
 obtain⟨b',c',rfl,hc',hr'⟩:=hv
 unfold aa7
 have HV:=hJ hr'
 have HL:=hJ hL
 replace HR:=hJ hR
 obtain⟨_,_,_,_,_,_,_,_,_,_,_,_,y0,y1,y2,y3,y4⟩:=hR.fs
 have lR:=hR.lt
 clear hR hr' hb HD hL
 go_wp2_with fail
 refine bodyPost_ret (bF8 rfl _ _ (w.heap.size+1) rfl (HR.out.lay 43 ⟨#[]⟩ b' 1 c' fr ti)) rfl ?_
 have hb5:Below w.heap.size w _:=Pc.lay5_bel HB.out (Nat.le_succ w.heap.size) (.int .i64 43) (.string ⟨#[]⟩) (.slice b' 1 c') (.int .i64 fr) (.int .i64 ti)
 refine⟨_,_,rfl,HL.out,⟨b',c',rfl,hc',?_⟩,hb5⟩
 refine ag9 (Nat.le_refl _) (by simp [World.setCell]) (fun k h1 _=> ?_) HV.out
 have hne:k≠w.heap.size+1:=by
  have:=HLT.out
  omega
 exact Cd.lay5_block' _ _ _ _ _ _ _ _ hne
end
end
section
open Go.RowKit
attribute [local go_sem] ab3 ab4 ab5 ab6 ab7 ab8
attribute [local go_sem ↓] Go.wp_at_zero Go.wp_at_succ
theorem Sa.coverO {E:PE} {F0 X:Nat→Prop} {w0 w:World} {q:Ps} {bs:List Box} {ns:List Kd} {ro:Ro} {K:Ending→World→Prop} (h:Sa E F0 X w0 w q bs ns ro) (i:Nat) {n m:Nd} {a:Option Addr} {c:Nat} (hi:nth ns i=some (n,a,c)) (hm:ay3 n=some m) (hok: ∀a c w1,Hid (Sa E F0 X w0 w1 q bs ((m,a,c)::ns) ro)→K (.returned (.tuple #[.agg #[.int .i64 m.kind,.string m.text,.slice a m.kids.length c,.int .i64 m.from',.int .i64 m.till],.int .i64 0,.int .i64 0])) w1):
  Calls Tryz.prog 154 #[.agg #[.int .i64 n.kind,.string n.text,.slice a n.kids.length c,.int .i64 n.from',.int .i64 n.till]] w K:=by
 obtain⟨F,h⟩:=h
 obtain⟨a9,c9,hv9,hc9,hr9⟩:=h.ni i hi
 have e9:a9=a∧c9=c:=by
  simp only [Value.agg.injEq] at hv9
  have:=congrArg (fun c:Array Value=>c[2]?) hv9
  simp at this
  exact⟨this.1.symm,this.2.symm⟩
 obtain⟨rfl,rfl⟩:=e9
 refine(aR6 n m a9 c9 _ _ (fun k hk=>hk.1) hr9 hc9 hm).mono fun e w1 ⟨u,L,he,hL,hv,hb⟩=> ?_
 have hn:=bl1 h.s hL hv hb
 obtain⟨a',c',rfl,hn⟩:=hn.form
 subst he
 exact hok a' c' w1 ((h.keep (Only.of_below hb)).node hn).a
theorem S.patternC {E:PE} {F:Nat→Prop} {w:World} {p:Ps} (n:Nd) (v:Value) (hn:IsP E F w n v) (h:St E F w p) (hne:ar6 n p≠ .out):
  Calls Tryz.prog 86 #[.pointer (some ⟨E.b,0,none⟩),v] w (Ans E F X0 w (ar6 n p) fun n v w'=>IsP E F w' n v):=by
 obtain⟨T,hT⟩: ∃T,ar6 n p=T:=⟨_,rfl⟩
 rw [hT] at hne⊢
 unfold ar6 at hT
 have HT:=hJ hT
 have HN:=hJ hne
 obtain⟨an,cn,rfl,hn0⟩:=hn.form
 have HA:=Sa.start1 (X:=X0) h hn0
 clear h hne hT hn hn0
 replace HT:=hget HT
 go_enter Tryz.func86,Tryz.ntmps86
 go_upto_region 1 with fail
 replace HA:=HA.out.pN (g:=w.heap.size) rfl n an cn
 replace HA:=HA.out.pZ (g:=(w.heap.size+1)) (by simp)
 generalize ((w.alloc (.cells #[.int .i64 n.kind,.string n.text,.slice an n.kids.length cn,.int .i64 n.from',.int .i64 n.till] 27)).alloc (.cells #[.int .i64 0,.string ⟨#[]⟩,.slice none 0 0,.int .i64 0,.int .i64 0] 27))=w1 at*
 obtain⟨zr,zn,-⟩:=HA.out.fs
 have yr:=HA.out.fw 0 rfl
 obtain⟨mb,cl,hc14,hlen,hcl⟩:=HA.out.clen
 have lE:=HA.out.lt
 by_cases h0:cl=0
 ·have hcm:p.commas= []:=hcl.1 h0
  replace HT:=hneg HT (by rw [hcm];decide)
  subst h0
  clear hcm hcl
  cases hm:ay3 n with
  |none=>
   rw [hm] at HT
   exact absurd HT.out.symm HN.out
  |some m=>
   replace HT:Hid (Res.ok m p=T):=hJ (by rw [hm] at HT;exact HT.out)
   have HM:=hJ hm
   clear hm
   go_wp2_with fail
   refine HA.out.coverO 0 rfl HM.out ?_
   clear zr zn yr hc14 hlen lE HA
   intro am cm w2 HA
   obtain⟨zr,zn,-⟩:=HA.out.fs
   have yr:=HA.out.fw 0 rfl
   go_wp2_with fail
   exact HA.out.fin_ndA 0 0 rfl rfl rfl rfl rfl HT.out.symm
 ·have hcm:p.commas.isEmpty=false:=by
   cases hc:p.commas with
   |nil=>exact absurd (hcl.2 hc) h0
   |cons x l=>rfl
  replace HT:=hpos HT (by exact hcm)
  exact absurd HT.out.symm HN.out
theorem S.asgC {E:PE} {R:(x:Fn)→PM x.Out} (hR:Env E R) {F:Nat→Prop} {w:World} {p:Ps} (n:Nd) (v:Value) (hn:IsP E F w n v) (h:St E F w p) (hne:an2 E.s R n p≠ .out):
  Calls Tryz.prog 52 #[.pointer (some ⟨E.b,0,none⟩),v] w (Ans E F X0 w (an2 E.s R n p) fun n v w'=>IsP E F w' n v):=by
 obtain⟨T,hT⟩: ∃T,an2 E.s R n p=T:=⟨_,rfl⟩
 rw [hT] at hne⊢
 unfold an2 at hT
 have HT:=hJ hT
 have HN:=hJ hne
 obtain⟨an,cn,rfl,hn0⟩:=hn.form
 have HA:=Sa.start1 (X:=X0) h hn0
 clear h hne hT hn hn0
 go_enter Tryz.func52,Tryz.ntmps52
 go_upto_region 1 with fail
 replace HA:=HA.out.pN (g:=w.heap.size) rfl n an cn
 replace HA:=HA.out.pZ (g:=(w.heap.size+1)) (by simp)
 generalize ((w.alloc (.cells #[.int .i64 n.kind,.string n.text,.slice an n.kids.length cn,.int .i64 n.from',.int .i64 n.till] 27)).alloc (.cells #[.int .i64 0,.string ⟨#[]⟩,.slice none 0 0,.int .i64 0,.int .i64 0] 27))=w1 at*
 obtain⟨zr,zn,-⟩:=HA.out.fs
 have yr:=HA.out.fw 0 rfl
 have yn:=HA.out.fw 1 rfl
 by_cases hk22:n.kind=22
 ·have hk22w:=kt hk22
  replace HT:=hpos HT (by exact hk22)
  have hk22':=hJ hk22
  clear hk22
  go_wp2_with fail
  exact HA.out.fin_nd 0 0 rfl rfl rfl rfl rfl HT.out.symm
 ·have hk22w:=kf hk22
  replace HT:=hneg HT (by exact hk22)
  have hk22':=hJ hk22
  clear hk22
  go_wp2_with fail
  refine HA.out.stepV HT HN (fun _ h e=>P.peek hR.ok 1 h.s e) ?_ ?_
  ·intro _ _ _ H;go_wp2_with fail;exact⟨rfl,Ans.badh H⟩
  clear zr zn yr yn HT HA
  intro t q2 w2 HT HA
  obtain⟨zr,zn,-⟩:=HA.out.fs
  have yr:=HA.out.fw 0 rfl
  have yn:=HA.out.fw 1 rfl
  go_wp2_with fail
  replace HA:=HA.out.pT (g:=w2.heap.size) rfl t
  refine HA.out.stepQ (fun _ h=>aK4 t _ (hR.ok.lx.bel h.s.bel)) ?_
  clear zr zn yr yn HA
  intro w3 HA
  obtain⟨zt,zr,zn,-⟩:=HA.out.fs
  have yr:=HA.out.fw 1 rfl
  have yn:=HA.out.fw 2 rfl
  cases ha:an3 t with
  |true=>
   replace HT:=hpos HT (by exact ha)
   clear ha
   go_upto_region 6 with fail
   clear zt zr zn yr yn
   generalize w3=w4 at*
   obtain⟨zt,zr,zn,-⟩:=HA.out.fs
   have yr:=HA.out.fw 1 rfl
   have yn:=HA.out.fw 2 rfl
   by_cases he:t.text=⟨#[61]⟩
   ·have hew:(t.text.toList== [61])=true:=xt he
    replace HT:=hneg HT (by exact fun h=>h he)
    have he':=hJ he
    clear he
    go_wp2_with fail
    refine HA.out.stepN HT HN (fun _ h e=>S.patternC n _ (h.ni 0 rfl) h.s e) ?_ ?_
    ·intro _ _ _ H;go_wp2_with fail;exact⟨rfl,Ans.badh H⟩
    clear zt zr zn yr yn HT HA
    intro m am cm q5 w5 HT HA
    obtain⟨zt,zr,zn,-⟩:=HA.out.fs
    have yr:=HA.out.fw 1 rfl
    have yn:=HA.out.fw 2 rfl
    go_upto_region 9 with fail
    replace HA:=HA.out.setN 2 0 rfl rfl rfl
    clear zt zr zn yr yn
    obtain⟨w6,e8,HA⟩:=HA
    rw [e8]
    clear e8
    dsimp only [ae4] at HA
    obtain⟨zt,zr,zn,-⟩:=HA.out.fs
    have yr:=HA.out.fw 1 rfl
    have yn:=HA.out.fw 2 rfl
    go_wp2_with fail
    refine HA.out.stepV HT HN (fun _ h e=>P.take hR.ok h.s e) ?_ ?_
    ·intro _ _ _ H;go_wp2_with fail;exact⟨rfl,Ans.badh H⟩
    clear zt zr zn yr yn HT HA
    intro _ q7 w7 HT HA
    obtain⟨zt,zr,zn,-⟩:=HA.out.fs
    have yr:=HA.out.fw 1 rfl
    have yn:=HA.out.fw 2 rfl
    go_wp2_with fail
    refine HA.out.stepN HT HN (fun _ h e=>hR.h .assign _ _ _ h.s e) ?_ ?_
    ·intro _ _ _ H;go_wp2_with fail;exact⟨rfl,Ans.badh H⟩
    clear zt zr zn yr yn HT HA
    intro y ay cy q8 w8 HT HA
    obtain⟨zt,zr,zn,-⟩:=HA.out.fs
    have yr:=HA.out.fw 1 rfl
    have yn:=HA.out.fw 2 rfl
    replace HT:=ac9 HT
    go_wp2_with fail
    replace HA:=HA.out.pN (g:=w8.heap.size) rfl y ay cy
    refine HA.out.node 30 t.text m.from' [(m,am,cm),(y,ay,cy)] (by simp) rfl (by simp) rfl rfl HT ?_
    clear zt zr zn yr yn HT HA
    intro z az cz w9 _ HT HA
    obtain⟨zy,zt,zr,zn,-⟩:=HA.out.fs
    have yr:=HA.out.fw 2 rfl
    have yn:=HA.out.fw 3 rfl
    go_wp2_with fail
    exact HA.out.fin_nd 2 0 rfl rfl rfl rfl rfl HT.out.symm
   ·have hew:(t.text.toList== [61])=false:=xf he
    replace HT:=hpos HT (by exact he)
    exact absurd HT.out.symm HN.out
  |false=>
   replace HT:=hneg HT (by rw [ha];decide)
   go_wp2_with fail
   exact HA.out.fin_nd 1 0 rfl rfl rfl rfl rfl HT.out.symm
end
end Go.Proofs.YtnobjeelihkjmaaGreatDoor
