/- Steps (Qh). Conditions: as stated. -/
import Derived.Test.YtnobjeelihkjmaaGreatDoorZk15
set_option maxHeartbeats 8000000
set_option maxRecDepth 100000
namespace Go.Proofs.YtnobjeelihkjmaaGreatDoor
section
open Go.RowKit
attribute [local go_sem] ab3 ab4 ab5 ab6 ab7 ab8
attribute [local go_sem ↓] Go.wp_at_zero Go.wp_at_succ
theorem af2 (c:Prop) [Decidable c] (a b:Int) (ha:0≤a∧a≤12) (hb:0≤b∧b≤12):0≤(if c then a else b)∧(if c then a else b)≤12:=by
 by_cases h:c
 ·rw [if_pos h];exact ha
 ·rw [if_neg h];exact hb
theorem aT0 (t:ByteArray):0≤ad3 t∧ad3 t≤12:=by
 unfold ad3
 exact af2 _ _ _ (by decide) (af2 _ _ _ (by decide) (af2 _ _ _ (by decide) (af2 _ _ _ (by decide) (af2 _ _ _ (by decide) (af2 _ _ _ (by decide) (af2 _ _ _ (by decide) (af2 _ _ _ (by decide) (af2 _ _ _ (by decide) (af2 _ _ _ (by decide) (af2 _ _ _ (by decide) (af2 _ _ _ (by decide) (by decide))))))))))))
theorem at2 {s:ByteArray} {p q:Ps} {t:Tk} {lv:Int} (h:al6 s p= .ok (t,lv) q):0≤lv∧lv≤12:=by
 unfold al6 at h
 rcases PM.cases h (by intro e;cases e) with ⟨u,q1,_,hk⟩|⟨c,i,_,hk⟩
 ·have hk2:=PM.get hk
  split at hk2
  ·have e:(u,(0:Int))=(t,lv):=by injection hk2
   injection e with _ e
   omega
  ·have e:(u,ad3 u.text)=(t,lv):=by injection hk2
   injection e with _ e
   have:=aT0 u.text
   omega
 ·cases hk
theorem P.logical (n:Nd) (a:Option Addr) (cap:Nat) (w:World):Calls Tryz.prog 158 #[.agg #[.int .i64 n.kind,.string n.text,.slice a n.kids.length cap,.int .i64 n.from',.int .i64 n.till]] w fun e w'=>e= .returned (.bool (aB5 n))∧Below w.heap.size w w':=by
 have hB:=(Below.alloc (Below.refl _ w) (Nat.le_refl _) (.cells #[.int .i64 n.kind,.string n.text,.slice a n.kids.length cap,.int .i64 n.from',.int .i64 n.till] 27))
 have b1:=bt n.text [124,124]
 have b2:=bt n.text [38,38]
 unfold aB5
 by_cases h1:n.kind=29
 ·have e1:(n.kind==29)=true:=by rw [h1];rfl
  have H1:=hJ h1
  clear h1
  by_cases t1:n.text=⟨#[124,124]⟩
  ·have f1:(n.text.toList== [124,124])=true:=by rw [b1];exact decide_eq_true t1
   have H2:=hJ t1
   clear t1 b1 b2
   go_enter Tryz.func158,Tryz.ntmps158
   go_wp2_with fail
   go_ret
   exact⟨by rw [H1.out,H2.out];rfl,hB⟩
  ·have f1:(n.text.toList== [124,124])=false:=by rw [b1];exact decide_eq_false t1
   have H2:=hJ t1
   clear t1 b1
   go_enter Tryz.func158,Tryz.ntmps158
   go_wp2_with fail
   go_ret
   exact⟨by rw [decide_eq_true H1.out,decide_eq_false H2.out];rfl,hB⟩
 ·have e1:(n.kind==29)=false:=by rw [beq_eq_false_iff_ne];exact h1
  have H1:=hJ h1
  clear h1 b1 b2
  go_enter Tryz.func158,Tryz.ntmps158
  go_wp2_with fail
  go_ret
  exact⟨by rw [decide_eq_false H1.out];rfl,hB⟩
theorem C.binary1 {E:PE} {R:(x:Fn)→PM x.Out} (hR:Env E R) {lv:Int} (hlv:0≤lv∧lv≤100) {pb lb nb:Nat} :
  CloS E (fun j=>j=nb) [(pb,false,.p E.b),(lb,false,.c1 (.int .i64 lv) 3),(nb,true,.nb)] (InB E nb) (R (.binary lv false)) 160 #[.pointer (some ⟨pb,0,none⟩),.pointer (some ⟨lb,0,none⟩),.pointer (some ⟨nb,0,none⟩)]:=by
 intro F w p h hB hd hne
 obtain⟨T,hT⟩: ∃T,R (.binary lv false) p=T:=⟨_,rfl⟩
 rw [hT] at hne⊢
 have HT:=hJ hT
 have HN:=hJ hne
 have HA:=Sa.start (X:=(fun j=>j=nb)) h [] _ (fun _ h=>by cases h) hB (by simp) hd
 clear h hne hT hB hd
 replace HT:=ac9 HT
 obtain⟨zpb,zlb,znb,-⟩:=HA.out.fs
 have ynb:=HA.out.fw 2 rfl
 go_enter Tryz.func160,Tryz.ntmps160
 go_wp2_with fail
 refine HA.out.stepN HT HN (fun _ h e=>hR.h (.binary lv false) _ _ _ hlv h.s e) ?_ ?_
 ·intro _ _ _ H;go_wp2_with fail;exact⟨rfl,Ans.badh H⟩
 clear zpb zlb znb ynb HT HA
 intro n an cn q1 w1 HT HA
 obtain⟨zpb,zlb,znb,-⟩:=HA.out.fs
 have ynb:=HA.out.fw 2 rfl
 go_wp2_with fail
 exact HA.out.fin_cl 2 0 rfl rfl rfl rfl HT.out.symm
def BiR (E:PE) (R:(x:Fn)→PM x.Out) (F:Nat→Prop) (w:World) (T:Res Nd) (gpb gr gn:Nat) (least:Int) (nullish:Bool) (k:Nat) (wr:World):Prop:=
 ∃(n:Nd) (a:Option Addr) (c:Nat) (q:Ps),Hid (at4.opsL E.s R least nullish k n q=T)∧Hid (Sa E F (X0) w wr q [(gpb,true,.p E.b),(gr,true,.z),(gn,true,.nd n a c)] [(n,a,c)] none)
theorem S.binary {E:PE} {R:(x:Fn)→PM x.Out} (hR:Env E R) {F:Nat→Prop} {w:World} {p:Ps} (f:Nat) (least:Int) (nullish:Bool) (h:St E F w p) (hne:at4 E.s f R least nullish p≠ .out):
  Calls Tryz.prog 87 #[.pointer (some ⟨E.b,0,none⟩),.int .i64 least,.bool nullish] w (Ans E F X0 w (at4 E.s f R least nullish p) fun n v w'=>IsP E F w' n v):=by
 obtain⟨T,hT⟩: ∃T,at4 E.s f R least nullish p=T:=⟨_,rfl⟩
 rw [hT] at hne⊢
 unfold at4 at hT
 have HT:=hJ hT
 have HN:=hJ hne
 have HA:=Sa.start0 (X:=X0) h
 clear h hne hT
 go_enter Tryz.func87,Tryz.ntmps87
 go_wp2_with fail
 go_step3
 go_wp2_with fail
 replace HA:=HA.out.pP (g:=w.heap.size) rfl
 replace HA:=HA.out.pZ (g:=(w.heap.size+1)) (by simp)
 refine HA.out.stepN HT HN (fun _ h e=>hR.h (.operand least) _ _ _ h.s e) ?_ ?_
 ·intro _ _ _ H;go_wp2_with fail;exact⟨rfl,Ans.badh H⟩
 clear HT HA
 intro n an cn q1 w1 HT HA
 obtain⟨zr,zpb,-⟩:=HA.out.fs
 have yr:=HA.out.fw 0 rfl
 by_cases hk22:n.kind=22
 ·have hk22w:=kt hk22
  replace HT:=hpos HT (by exact hk22)
  have hk22':=hJ hk22
  clear hk22
  go_wp2_with fail
  try rw [Exit.noGoto_ret]
  exact HA.out.fin_ndA 0 0 rfl rfl rfl rfl rfl HT.out.symm
 ·have hk22w:=kf hk22
  replace HT:=hneg HT (by exact hk22)
  have hk22':=hJ hk22
  clear hk22
  go_wp2_with fail
  replace HA:=HA.out.pN (g:=w1.heap.size) rfl n an cn
  go_step3
  go_wp2_with fail
  go_loopg [] f (fun k wr=>BiR E R F w T (w.heap.size) ((w.heap.size+1)) (w1.heap.size) least nullish k wr)
  case atStart=>exact⟨n,an,cn,_,HT,HA.out.pick [2,1,0] [0] (by decide)⟩
  case round=>
   clear zr zpb yr HT HA
   obtain⟨n,an,cn,q,HT,HA⟩:=hrel
   cases gk with
   |zero=>exact absurd HT.out.symm HN.out
   |succ k=>
    unfold at4.opsL at HT
    obtain⟨zpb,zr,zn,-⟩:=HA.out.fs
    have yr:=HA.out.fw 1 rfl
    have yn:=HA.out.fw 2 rfl
    go_wp2_with fail
    refine HA.out.stepX HT HN (fun _ h e=>S.operator hR h.s e) ?_ ?_
    ·intro _ _ _ H;go_wp2_with fail;exact⟨rfl,Ans.badh H⟩
    clear zpb zr zn yr yn HT HA
    intro rr q2 w2 HX HT HA
    obtain⟨t,lv⟩:=rr
    have hlv0:=(at2 HX.out).1
    have hlv1:=(at2 HX.out).2
    clear HX
    dsimp only at HT⊢
    obtain⟨zpb,zr,zn,-⟩:=HA.out.fs
    have yr:=HA.out.fw 1 rfl
    have yn:=HA.out.fw 2 rfl
    go_upto_region 5 with fail
    replace HA:=HA.out.pT (g:=w2.heap.size) rfl t
    replace HA:=HA.out.p1 (g:=(w2.heap.size+1)) (by simp) (.int .i64 lv) 3
    clear zpb zr zn yr yn
    generalize ((w2.alloc (.cells #[.int .i64 t.kind,.string t.text,.int .i64 t.from',.int .i64 t.till,.bool t.line] 49)).alloc (.cells #[.int .i64 lv] 3))=w3 at*
    obtain⟨zlb,zt,zpb,zr,zn,-⟩:=HA.out.fs
    have yr:=HA.out.fw 3 rfl
    have yn:=HA.out.fw 4 rfl
    cases h1:decide (lv<least) with
    |true=>
     replace HT:=hpos HT (by exact .inl (of_decide_eq_true h1))
     go_wp2_with fail
     try rw [Exit.noGoto_ret]
     exact HA.out.fin_nd 3 0 rfl rfl rfl rfl rfl HT.out.symm
    |false=>
     by_cases hk0:lv=0
     ·have hk0w:=kt hk0
      replace HT:=hpos HT (by exact .inr hk0)
      have hk0':=hJ hk0
      clear hk0
      go_wp2_with fail
      try rw [Exit.noGoto_ret]
      exact HA.out.fin_nd 3 0 rfl rfl rfl rfl rfl HT.out.symm
     ·have hk0w:=kf hk0
      replace HT:=hneg HT (by exact fun h=>h.elim (of_decide_eq_false h1) hk0)
      have hk0':=hJ hk0
      clear hk0
      by_cases he1:t.text=⟨#[63,63]⟩
      ·have he1w:(t.text.toList== [63,63])=true:=xt he1
       have hns:t.text≠⟨#[42,42]⟩:=by rw [he1];decide
       have hf0w:(t.text.toList== [124,124])=false:=by rw [bt];exact decide_eq_false (by rw [he1];decide)
       have hf1w:(t.text.toList== [38,38])=false:=by rw [bt];exact decide_eq_false (by rw [he1];decide)
       have hf2w:(t.text.toList== [42,42])=false:=by rw [bt];exact decide_eq_false (hns)
       have he1':=hJ he1
       clear he1
       go_wp2_with fail
       refine HA.out.stepQ (fun _ h=>P.logical n _ _ _) ?_
       clear zlb zt zpb zr zn yr yn HA
       intro w4 HA
       obtain⟨zlb,zt,zpb,zr,zn,-⟩:=HA.out.fs
       have yr:=HA.out.fw 3 rfl
       have yn:=HA.out.fw 4 rfl
       cases hl:aB5 n with
       |true=>
        replace HT:=hpos HT (by rw [he1'.out,hl];rfl)
        go_wp2_with fail
        have H:=HA.out.bad HT.out.symm
        refine HA.out.odd ?_
        go_wp2_with fail
        exact⟨rfl,Ans.badh H⟩
       |false=>
        replace HT:=hneg HT (by rw [he1'.out,hl];simp)
        have hrw:decide (t.text=⟨#[42,42]⟩)=false:=decide_eq_false hns
        go_wp2_with fail
        refine HA.out.stepV HT HN (fun _ h e=>P.take hR.ok h.s e) ?_ ?_
        ·intro _ _ _ H;go_wp2_with fail;exact⟨rfl,Ans.badh H⟩
        clear zlb zt zpb zr zn yr yn HT HA
        intro _ q5 w5 HT HA
        obtain⟨zlb,zt,zpb,zr,zn,-⟩:=HA.out.fs
        have yr:=HA.out.fw 3 rfl
        have yn:=HA.out.fw 4 rfl
        go_wp2_with fail
        replace HA:=HA.out.pZ (g:=w5.heap.size) rfl
        refine(ar9 t.text _).mono ?_
        rintro e w9 ⟨rfl,rfl⟩
        go_wp2_with fail
        rw [if_neg (by exact hns)] at HT
        rw [show decide (t.text=⟨#[63,63]⟩)=true from decide_eq_true he1'.out] at HT
        have hl2:0≤lv+1∧lv+1≤100:=⟨by omega,by omega⟩
        have hwr:IntKind.i64.wrap (lv+1)=lv+1:=by rw [IntKind.wrap_i64];omega
        refine HA.out.stepN HT HN (fun _ h e=>hR.h (.binary (lv+1) true) _ _ _ hl2 h.s e) ?_ ?_
        ·intro _ _ _ H;go_wp2_with fail;exact⟨rfl,Ans.badh H⟩
        clear zlb zt zpb zr zn yr yn HT HA
        intro y ay cy q6 w6 HT HA
        obtain⟨zrb,zlb,zt,zpb,zr,zn,-⟩:=HA.out.fs
        have yrb:=HA.out.fw 0 rfl
        have yr:=HA.out.fw 4 rfl
        have yn:=HA.out.fw 5 rfl
        go_upto_region 15 with fail
        replace HA:=HA.out.setN 0 0 rfl rfl rfl
        clear zrb zlb zt zpb zr zn yrb yr yn
        obtain⟨w7,e8,HA⟩:=HA
        rw [e8]
        clear e8
        dsimp only [ae4] at HA
        obtain⟨zrb,zlb,zt,zpb,zr,zn,-⟩:=HA.out.fs
        have yrb:=HA.out.fw 0 rfl
        have yr:=HA.out.fw 4 rfl
        have yn:=HA.out.fw 5 rfl
        go_wp2_with fail
        refine HA.out.node 29 t.text n.from' [(n,an,cn),(y,ay,cy)] (by simp) rfl rfl rfl rfl HT ?_
        clear zrb zlb zt zpb zr zn yrb yr yn HT HA
        intro m am cm w8 _ HT HA
        obtain⟨zrb,zlb,zt,zpb,zr,zn,-⟩:=HA.out.fs
        have yrb:=HA.out.fw 0 rfl
        have yr:=HA.out.fw 4 rfl
        have yn:=HA.out.fw 5 rfl
        go_wp2_with fail
        replace HA:=HA.out.setN 5 0 rfl rfl rfl
        clear zrb zlb zt zpb zr zn yrb yr yn
        obtain⟨w9,e8,HA⟩:=HA
        rw [e8]
        clear e8
        dsimp only [ae4] at HA
        obtain⟨zrb,zlb,zt,zpb,zr,zn,-⟩:=HA.out.fs
        have yrb:=HA.out.fw 0 rfl
        have yr:=HA.out.fw 4 rfl
        have yn:=HA.out.fw 5 rfl
        go_roundg k
        case measure=>exact Nat.lt_succ_self k
        case rel=>exact⟨m,am,cm,_,HT,HA.out.pick [3,4,5] [0] (by decide)⟩
      ·have he1w:(t.text.toList== [63,63])=false:=xf he1
       have he1':=hJ he1
       clear he1
       by_cases he2:t.text=⟨#[124,124]⟩
       ·have he2w:(t.text.toList== [124,124])=true:=xt he2
        have hns:t.text≠⟨#[42,42]⟩:=by rw [he2];decide
        have hf0w:(t.text.toList== [42,42])=false:=by rw [bt];exact decide_eq_false (hns)
        have he2':=hJ he2
        clear he2
        cases nullish with
        |true=>
         replace HT:=hpos HT (by rw [he2'.out];simp)
         go_wp2_with fail
         have H:=HA.out.bad HT.out.symm
         refine HA.out.odd ?_
         go_wp2_with fail
         exact⟨rfl,Ans.badh H⟩
        |false=>
         replace HT:=hneg HT (by rw [he2'.out];simp)
         have hrw:decide (t.text=⟨#[42,42]⟩)=false:=decide_eq_false hns
         go_wp2_with fail
         refine HA.out.stepV HT HN (fun _ h e=>P.take hR.ok h.s e) ?_ ?_
         ·intro _ _ _ H;go_wp2_with fail;exact⟨rfl,Ans.badh H⟩
         clear zlb zt zpb zr zn yr yn HT HA
         intro _ q4 w4 HT HA
         obtain⟨zlb,zt,zpb,zr,zn,-⟩:=HA.out.fs
         have yr:=HA.out.fw 3 rfl
         have yn:=HA.out.fw 4 rfl
         go_wp2_with fail
         replace HA:=HA.out.pZ (g:=w4.heap.size) rfl
         refine(ar9 t.text _).mono ?_
         rintro e w9 ⟨rfl,rfl⟩
         go_wp2_with fail
         rw [if_neg (by exact hns)] at HT
         rw [show decide (t.text=⟨#[63,63]⟩)=false from decide_eq_false he1'.out] at HT
         have hl2:0≤lv+1∧lv+1≤100:=⟨by omega,by omega⟩
         have hwr:IntKind.i64.wrap (lv+1)=lv+1:=by rw [IntKind.wrap_i64];omega
         refine HA.out.stepN HT HN (fun _ h e=>hR.h (.binary (lv+1) false) _ _ _ hl2 h.s e) ?_ ?_
         ·intro _ _ _ H;go_wp2_with fail;exact⟨rfl,Ans.badh H⟩
         clear zlb zt zpb zr zn yr yn HT HA
         intro y ay cy q5 w5 HT HA
         obtain⟨zrb,zlb,zt,zpb,zr,zn,-⟩:=HA.out.fs
         have yrb:=HA.out.fw 0 rfl
         have yr:=HA.out.fw 4 rfl
         have yn:=HA.out.fw 5 rfl
         go_upto_region 15 with fail
         replace HA:=HA.out.setN 0 0 rfl rfl rfl
         clear zrb zlb zt zpb zr zn yrb yr yn
         obtain⟨w6,e8,HA⟩:=HA
         rw [e8]
         clear e8
         dsimp only [ae4] at HA
         obtain⟨zrb,zlb,zt,zpb,zr,zn,-⟩:=HA.out.fs
         have yrb:=HA.out.fw 0 rfl
         have yr:=HA.out.fw 4 rfl
         have yn:=HA.out.fw 5 rfl
         go_wp2_with fail
         refine HA.out.node 29 t.text n.from' [(n,an,cn),(y,ay,cy)] (by simp) rfl rfl rfl rfl HT ?_
         clear zrb zlb zt zpb zr zn yrb yr yn HT HA
         intro m am cm w7 _ HT HA
         obtain⟨zrb,zlb,zt,zpb,zr,zn,-⟩:=HA.out.fs
         have yrb:=HA.out.fw 0 rfl
         have yr:=HA.out.fw 4 rfl
         have yn:=HA.out.fw 5 rfl
         go_wp2_with fail
         replace HA:=HA.out.setN 5 0 rfl rfl rfl
         clear zrb zlb zt zpb zr zn yrb yr yn
         obtain⟨w8,e8,HA⟩:=HA
         rw [e8]
         clear e8
         dsimp only [ae4] at HA
         obtain⟨zrb,zlb,zt,zpb,zr,zn,-⟩:=HA.out.fs
         have yrb:=HA.out.fw 0 rfl
         have yr:=HA.out.fw 4 rfl
         have yn:=HA.out.fw 5 rfl
         go_roundg k
         case measure=>exact Nat.lt_succ_self k
         case rel=>exact⟨m,am,cm,_,HT,HA.out.pick [3,4,5] [0] (by decide)⟩
       ·have he2w:(t.text.toList== [124,124])=false:=xf he2
        have he2':=hJ he2
        clear he2
        by_cases he3:t.text=⟨#[38,38]⟩
        ·have he3w:(t.text.toList== [38,38])=true:=xt he3
         have hns:t.text≠⟨#[42,42]⟩:=by rw [he3];decide
         have hf0w:(t.text.toList== [42,42])=false:=by rw [bt];exact decide_eq_false (hns)
         have he3':=hJ he3
         clear he3
         cases nullish with
         |true=>
          replace HT:=hpos HT (by rw [he3'.out];simp)
          go_wp2_with fail
          have H:=HA.out.bad HT.out.symm
          refine HA.out.odd ?_
          go_wp2_with fail
          exact⟨rfl,Ans.badh H⟩
         |false=>
          replace HT:=hneg HT (by rw [he3'.out];simp)
          have hrw:decide (t.text=⟨#[42,42]⟩)=false:=decide_eq_false hns
          go_wp2_with fail
          refine HA.out.stepV HT HN (fun _ h e=>P.take hR.ok h.s e) ?_ ?_
          ·intro _ _ _ H;go_wp2_with fail;exact⟨rfl,Ans.badh H⟩
          clear zlb zt zpb zr zn yr yn HT HA
          intro _ q4 w4 HT HA
          obtain⟨zlb,zt,zpb,zr,zn,-⟩:=HA.out.fs
          have yr:=HA.out.fw 3 rfl
          have yn:=HA.out.fw 4 rfl
          go_wp2_with fail
          replace HA:=HA.out.pZ (g:=w4.heap.size) rfl
          refine(ar9 t.text _).mono ?_
          rintro e w9 ⟨rfl,rfl⟩
          go_wp2_with fail
          rw [if_neg (by exact hns)] at HT
          rw [show decide (t.text=⟨#[63,63]⟩)=false from decide_eq_false he1'.out] at HT
          have hl2:0≤lv+1∧lv+1≤100:=⟨by omega,by omega⟩
          have hwr:IntKind.i64.wrap (lv+1)=lv+1:=by rw [IntKind.wrap_i64];omega
          refine HA.out.stepN HT HN (fun _ h e=>hR.h (.binary (lv+1) false) _ _ _ hl2 h.s e) ?_ ?_
          ·intro _ _ _ H;go_wp2_with fail;exact⟨rfl,Ans.badh H⟩
          clear zlb zt zpb zr zn yr yn HT HA
          intro y ay cy q5 w5 HT HA
          obtain⟨zrb,zlb,zt,zpb,zr,zn,-⟩:=HA.out.fs
          have yrb:=HA.out.fw 0 rfl
          have yr:=HA.out.fw 4 rfl
          have yn:=HA.out.fw 5 rfl
          go_upto_region 15 with fail
          replace HA:=HA.out.setN 0 0 rfl rfl rfl
          clear zrb zlb zt zpb zr zn yrb yr yn
          obtain⟨w6,e8,HA⟩:=HA
          rw [e8]
          clear e8
          dsimp only [ae4] at HA
          obtain⟨zrb,zlb,zt,zpb,zr,zn,-⟩:=HA.out.fs
          have yrb:=HA.out.fw 0 rfl
          have yr:=HA.out.fw 4 rfl
          have yn:=HA.out.fw 5 rfl
          go_wp2_with fail
          refine HA.out.node 29 t.text n.from' [(n,an,cn),(y,ay,cy)] (by simp) rfl rfl rfl rfl HT ?_
          clear zrb zlb zt zpb zr zn yrb yr yn HT HA
          intro m am cm w7 _ HT HA
          obtain⟨zrb,zlb,zt,zpb,zr,zn,-⟩:=HA.out.fs
          have yrb:=HA.out.fw 0 rfl
          have yr:=HA.out.fw 4 rfl
          have yn:=HA.out.fw 5 rfl
          go_wp2_with fail
          replace HA:=HA.out.setN 5 0 rfl rfl rfl
          clear zrb zlb zt zpb zr zn yrb yr yn
          obtain⟨w8,e8,HA⟩:=HA
          rw [e8]
          clear e8
          dsimp only [ae4] at HA
          obtain⟨zrb,zlb,zt,zpb,zr,zn,-⟩:=HA.out.fs
          have yrb:=HA.out.fw 0 rfl
          have yr:=HA.out.fw 4 rfl
          have yn:=HA.out.fw 5 rfl
          go_roundg k
          case measure=>exact Nat.lt_succ_self k
          case rel=>exact⟨m,am,cm,_,HT,HA.out.pick [3,4,5] [0] (by decide)⟩
        ·have he3w:(t.text.toList== [38,38])=false:=xf he3
         have he3':=hJ he3
         clear he3
         by_cases he4:t.text=⟨#[42,42]⟩
         ·have he4w:(t.text.toList== [42,42])=true:=xt he4
          have he4':=hJ he4
          clear he4
          by_cases hk27:n.kind=27
          ·have hk27w:=kt hk27
           have hk27':=hJ hk27
           clear hk27
           replace HT:=hpos HT (by rw [decide_eq_false he1'.out,decide_eq_false he2'.out,decide_eq_false he3'.out,he4'.out];simp [hk27'.out])
           go_wp2_with fail
           have H:=HA.out.bad HT.out.symm
           refine HA.out.odd ?_
           go_wp2_with fail
           exact⟨rfl,Ans.badh H⟩
          ·have hk27w:=kf hk27
           have hk27':=hJ hk27
           clear hk27
           by_cases hk34:n.kind=34
           ·have hk34w:=kt hk34
            have hk34':=hJ hk34
            clear hk34
            replace HT:=hpos HT (by rw [decide_eq_false he1'.out,decide_eq_false he2'.out,decide_eq_false he3'.out,he4'.out];simp [hk34'.out])
            go_wp2_with fail
            have H:=HA.out.bad HT.out.symm
            refine HA.out.odd ?_
            go_wp2_with fail
            exact⟨rfl,Ans.badh H⟩
           ·have hk34w:=kf hk34
            have hk34':=hJ hk34
            clear hk34
            replace HT:=hneg HT (by rw [decide_eq_false he1'.out,decide_eq_false he2'.out,decide_eq_false he3'.out,he4'.out];simp [hk27'.out,hk34'.out])
            have hrw:decide (t.text=⟨#[42,42]⟩)=true:=decide_eq_true he4'.out
            go_wp2_with fail
            refine HA.out.stepV HT HN (fun _ h e=>P.take hR.ok h.s e) ?_ ?_
            ·intro _ _ _ H;go_wp2_with fail;exact⟨rfl,Ans.badh H⟩
            clear zlb zt zpb zr zn yr yn HT HA
            intro _ q4 w4 HT HA
            obtain⟨zlb,zt,zpb,zr,zn,-⟩:=HA.out.fs
            have yr:=HA.out.fw 3 rfl
            have yn:=HA.out.fw 4 rfl
            go_wp2_with fail
            replace HA:=HA.out.pZ (g:=w4.heap.size) rfl
            refine(ar9 t.text _).mono ?_
            rintro e w9 ⟨rfl,rfl⟩
            go_wp2_with fail
            rw [if_pos (by exact he4'.out)] at HT
            replace HT:=bk2 HT
            have hlv:0≤lv∧lv≤100:=⟨by omega,by omega⟩
            rcases at1 HT HN with ⟨u,r378,HX,hk⟩|⟨c,i,HX,hk⟩
            ·replace HT:=hk;clear hk
             rcases at1 HT HN with ⟨y,r380,HX2,hk⟩|⟨c,i,HX2,hk⟩
             ·replace HT:=hk;clear hk
              replace HA:=HA.out.drew
              go_region_with (first|(go_at_call 18;refine HA.out.gotV HX (fun _ h e=>P.peek hR.ok 2 h.s e) ?_;clear zlb zt zpb zr zn yr yn HA;intro w5 HA;obtain⟨zrb,zlb,zt,zpb,zr,zn,-⟩:=HA.out.fs;have yrb:=HA.out.fw 0 rfl;have yr:=HA.out.fw 4 rfl;have yn:=HA.out.fw 5 rfl)|(go_at_call 46;refine HA.out.gotdeeper hR.ok u.from' HX2 (fun _=>by kernel_rfl) (C.binary1 hR hlv) (.tail _ (.tail _ (.head _))) [3,1,0] ⟨⟨_,_,rfl,.inl rfl⟩,⟨_,_,rfl,.inl rfl⟩,⟨_,_,rfl,.inr ⟨rfl,_,_,_,_,_,_,_,rfl⟩⟩,trivial⟩ (by decide) 0 rfl ?_;clear zrb zlb zt zpb zr zn yrb yr yn HA;intro ay cy w6 HA;dsimp only [ae4] at HA;obtain⟨zrb,zlb,zt,zpb,zr,zn,-⟩:=HA.out.fs;have yrb:=HA.out.fw 0 rfl;have yr:=HA.out.fw 4 rfl;have yn:=HA.out.fw 5 rfl))
              all_goals
               go_wp2_with fail
               refine HA.out.node 29 t.text n.from' [(n,an,cn),(y,ay,cy)] (by simp) rfl rfl rfl rfl HT ?_
               clear zrb zlb zt zpb zr zn yrb yr yn HT HA
               intro m am cm w7 _ HT HA
               obtain⟨zrb,zlb,zt,zpb,zr,zn,-⟩:=HA.out.fs
               have yrb:=HA.out.fw 0 rfl
               have yr:=HA.out.fw 4 rfl
               have yn:=HA.out.fw 5 rfl
               go_wp2_with fail
               replace HA:=HA.out.setN 5 0 rfl rfl rfl
               clear zrb zlb zt zpb zr zn yrb yr yn
               obtain⟨w8,e8,HA⟩:=HA
               rw [e8]
               clear e8
               dsimp only [ae4] at HA
               obtain⟨zrb,zlb,zt,zpb,zr,zn,-⟩:=HA.out.fs
               have yrb:=HA.out.fw 0 rfl
               have yr:=HA.out.fw 4 rfl
               have yn:=HA.out.fw 5 rfl
               go_roundg k
               case measure=>exact Nat.lt_succ_self k
               case rel=>exact⟨m,am,cm,_,HT,HA.out.pick [3,4,5] [0] (by decide)⟩
             ·replace HT:=hk;clear hk
              replace HA:=HA.out.drew
              go_region_with (first|(go_at_call 18;refine HA.out.gotV HX (fun _ h e=>P.peek hR.ok 2 h.s e) ?_;clear zlb zt zpb zr zn yr yn HA;intro w5 HA;obtain⟨zrb,zlb,zt,zpb,zr,zn,-⟩:=HA.out.fs;have yrb:=HA.out.fw 0 rfl;have yr:=HA.out.fw 4 rfl;have yn:=HA.out.fw 5 rfl)|(go_at_call 46;refine HA.out.gotbaddeeper hR.ok u.from' HX2 HT (fun _=>by kernel_rfl) (C.binary1 hR hlv) (.tail _ (.tail _ (.head _))) [3,1,0] ⟨⟨_,_,rfl,.inl rfl⟩,⟨_,_,rfl,.inl rfl⟩,⟨_,_,rfl,.inr ⟨rfl,_,_,_,_,_,_,_,rfl⟩⟩,trivial⟩ (by decide) 0 rfl (fun _ H=>by (go_wp2_with fail);exact⟨rfl,Ans.badh H⟩) ?_;intro HF))
              all_goals
               exact HF.out.elim
            ·replace HT:=hk;clear hk
             replace HA:=HA.out.drew
             go_region_with (first|(go_at_call 18;refine HA.out.gotbad (.agg #[.int .i64 0,.string ⟨#[]⟩,.int .i64 0,.int .i64 0,.bool false]) HX HT (fun _ h e=>P.peek hR.ok 2 h.s e) (fun _ H=>by (go_wp2_with fail);exact⟨rfl,Ans.badh H⟩) ?_;intro HF)|(go_at_call 46;refine av1 (.tuple #[]) HF ?_))
             all_goals
              exact HF.out.elim
         ·have he4w:(t.text.toList== [42,42])=false:=xf he4
          have hns:=he4
          have he4':=hJ he4
          clear he4
          go_wp2_with fail
          replace HT:=hneg HT (by rw [decide_eq_false he1'.out,decide_eq_false he2'.out,decide_eq_false he3'.out,decide_eq_false he4'.out];simp)
          have hrw:decide (t.text=⟨#[42,42]⟩)=false:=decide_eq_false hns
          refine HA.out.stepV HT HN (fun _ h e=>P.take hR.ok h.s e) ?_ ?_
          ·intro _ _ _ H;go_wp2_with fail;exact⟨rfl,Ans.badh H⟩
          clear zlb zt zpb zr zn yr yn HT HA
          intro _ q4 w4 HT HA
          obtain⟨zlb,zt,zpb,zr,zn,-⟩:=HA.out.fs
          have yr:=HA.out.fw 3 rfl
          have yn:=HA.out.fw 4 rfl
          go_wp2_with fail
          replace HA:=HA.out.pZ (g:=w4.heap.size) rfl
          refine(ar9 t.text _).mono ?_
          rintro e w9 ⟨rfl,rfl⟩
          go_wp2_with fail
          rw [if_neg (by exact hns)] at HT
          rw [show decide (t.text=⟨#[63,63]⟩)=false from decide_eq_false he1'.out] at HT
          have hl2:0≤lv+1∧lv+1≤100:=⟨by omega,by omega⟩
          have hwr:IntKind.i64.wrap (lv+1)=lv+1:=by rw [IntKind.wrap_i64];omega
          refine HA.out.stepN HT HN (fun _ h e=>hR.h (.binary (lv+1) false) _ _ _ hl2 h.s e) ?_ ?_
          ·intro _ _ _ H;go_wp2_with fail;exact⟨rfl,Ans.badh H⟩
          clear zlb zt zpb zr zn yr yn HT HA
          intro y ay cy q5 w5 HT HA
          obtain⟨zrb,zlb,zt,zpb,zr,zn,-⟩:=HA.out.fs
          have yrb:=HA.out.fw 0 rfl
          have yr:=HA.out.fw 4 rfl
          have yn:=HA.out.fw 5 rfl
          go_upto_region 15 with fail
          replace HA:=HA.out.setN 0 0 rfl rfl rfl
          clear zrb zlb zt zpb zr zn yrb yr yn
          obtain⟨w6,e8,HA⟩:=HA
          rw [e8]
          clear e8
          dsimp only [ae4] at HA
          obtain⟨zrb,zlb,zt,zpb,zr,zn,-⟩:=HA.out.fs
          have yrb:=HA.out.fw 0 rfl
          have yr:=HA.out.fw 4 rfl
          have yn:=HA.out.fw 5 rfl
          go_wp2_with fail
          refine HA.out.node 29 t.text n.from' [(n,an,cn),(y,ay,cy)] (by simp) rfl rfl rfl rfl HT ?_
          clear zrb zlb zt zpb zr zn yrb yr yn HT HA
          intro m am cm w7 _ HT HA
          obtain⟨zrb,zlb,zt,zpb,zr,zn,-⟩:=HA.out.fs
          have yrb:=HA.out.fw 0 rfl
          have yr:=HA.out.fw 4 rfl
          have yn:=HA.out.fw 5 rfl
          go_wp2_with fail
          replace HA:=HA.out.setN 5 0 rfl rfl rfl
          clear zrb zlb zt zpb zr zn yrb yr yn
          obtain⟨w8,e8,HA⟩:=HA
          rw [e8]
          clear e8
          dsimp only [ae4] at HA
          obtain⟨zrb,zlb,zt,zpb,zr,zn,-⟩:=HA.out.fs
          have yrb:=HA.out.fw 0 rfl
          have yr:=HA.out.fw 4 rfl
          have yn:=HA.out.fw 5 rfl
          go_roundg k
          case measure=>exact Nat.lt_succ_self k
          case rel=>exact⟨m,am,cm,_,HT,HA.out.pick [3,4,5] [0] (by decide)⟩
end
end Go.Proofs.YtnobjeelihkjmaaGreatDoor
