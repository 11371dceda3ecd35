/- Steps (Qb Qc). Conditions: as stated. -/
import Derived.Test.YtnobjeelihkjmaaGreatDoorZk13
set_option maxHeartbeats 1000000
set_option maxRecDepth 100000
namespace Go.Proofs.YtnobjeelihkjmaaGreatDoor
section
open Go.RowKit
attribute [local go_sem] ab3 ab4 ab5 ab6 ab7 ab8
attribute [local go_sem ↓] Go.wp_at_zero Go.wp_at_succ
theorem S.single {E:PE} {R:(x:Fn)→PM x.Out} (hR:Env E R) {F:Nat→Prop} {w:World} {p:Ps} (t:Tk) (h:St E F w p) (hne:al0.single E.s E.m t p≠ .out):
  Calls Tryz.prog 50 #[.pointer (some ⟨E.b,0,none⟩),.agg #[.int .i64 t.kind,.string t.text,.int .i64 t.from',.int .i64 t.till,.bool t.line]] w (Ans E F X0 w (al0.single E.s E.m t p) fun b v _=>v= .bool b):=by
 obtain⟨T,hT⟩: ∃T,al0.single E.s E.m t p=T:=⟨_,rfl⟩
 rw [hT] at hne⊢
 unfold al0.single at hT
 have HT:=hJ hT
 have HN:=hJ hne
 have HA:=Sa.start0 (X:=X0) h
 clear h hne hT
 go_enter Tryz.func50,Tryz.ntmps50
 go_wp2_with fail
 replace HT:=hget HT
 replace HA:=HA.out.pT (g:=w.heap.size) rfl t
 refine HA.out.stepQ (fun _ h=>P.name t ⟨#[97,115,121,110,99]⟩ _) ?_
 clear HA
 intro w1 HA
 obtain⟨zt,-⟩:=HA.out.fs
 have yt:=HA.out.fw 0 rfl
 cases ha:ae7 t ⟨#[97,115,121,110,99]⟩ with
 |true=>
  rw [if_pos (by rw [ha])] at HT
  replace HT:=bk2 HT
  go_wp2_with fail
  refine HA.out.look hR.ok t.till HT HN ?_
  clear zt yt HT HA
  intro next w2 HT HA
  obtain⟨zt,-⟩:=HA.out.fs
  have yt:=HA.out.fw 0 rfl
  go_upto_region 3 with fail
  replace HA:=HA.out.pT (g:=w2.heap.size) rfl next
  clear zt yt
  generalize (w2.alloc (.cells #[.int .i64 next.kind,.string next.text,.int .i64 next.from',.int .i64 next.till,.bool next.line] 49))=w3 at*
  obtain⟨znext,zt,-⟩:=HA.out.fs
  have yt:=HA.out.fw 1 rfl
  cases hn:next.line with
  |true=>
   rw [if_neg (by rw [hn];simp)] at HT
   replace HT:=bd9 HT
   go_wp2_with fail
   have hn':=hJ hn
   clear hn
   refine HA.out.look hR.ok t.till HT HN ?_
   clear znext zt yt HT HA
   intro nx w4 HT HA
   obtain⟨znext,zt,-⟩:=HA.out.fs
   have yt:=HA.out.fw 1 rfl
   go_upto_region 6 with fail
   replace HA:=HA.out.pT (g:=w4.heap.size) rfl nx
   clear znext zt yt
   generalize (w4.alloc (.cells #[.int .i64 nx.kind,.string nx.text,.int .i64 nx.from',.int .i64 nx.till,.bool nx.line] 49))=w5 at*
   obtain⟨znx,znext,zt,-⟩:=HA.out.fs
   have yt:=HA.out.fw 2 rfl
   go_wp2_with fail
   refine HA.out.stepQ (fun _ h=>P.ident t h.s) ?_
   clear znx znext zt yt HA
   intro w6 HA
   obtain⟨znx,znext,zt,-⟩:=HA.out.fs
   have yt:=HA.out.fw 2 rfl
   cases hi:am4 E.m p.flags t with
   |true=>
    go_wp2_with fail
    refine HA.out.stepQ (fun _ h=>P.punct nx ⟨#[61,62]⟩ _) ?_
    clear znx znext zt yt HA
    intro w7 HA
    obtain⟨znx,znext,zt,-⟩:=HA.out.fs
    have yt:=HA.out.fw 2 rfl
    cases hp:aa2 nx ⟨#[61,62]⟩ with
    |true=>
     cases hl:nx.line with
     |true=>
      replace HT:=hpos HT (by rw [hi,hp,hl];rfl)
      have hlw:nx.line=true:=hl
      go_wp2_with fail
      go_ret
      exact HA.out.ans HT.out.symm rfl
     |false=>
      replace HT:=hneg HT (by rw [hi,hp,hl];decide)
      go_wp2_with fail
      refine HA.out.leaf 1 t ?_
      clear znx znext zt yt HA
      intro m am cm w8 HE HA
      rw [HE.out] at HT
      clear HE
      obtain⟨znx,znext,zt,-⟩:=HA.out.fs
      have yt:=HA.out.fw 2 rfl
      go_wp2_with fail
      refine HA.out.stepV HT HN (fun _ h e=>S.target m _ (h.ni 0 rfl) h.s e) ?_ ?_
      ·intro _ _ _ H;go_wp2_with fail;exact⟨rfl,Ans.badh H⟩
      clear znx znext zt yt HT HA
      intro _ q9 w9 HT HA
      obtain⟨znx,znext,zt,-⟩:=HA.out.fs
      have yt:=HA.out.fw 2 rfl
      go_wp2_with fail
      go_ret
      exact HA.out.ans HT.out.symm rfl
    |false=>
     replace HT:=hpos HT (by rw [hi,hp];rfl)
     go_wp2_with fail
     go_ret
     exact HA.out.ans HT.out.symm rfl
   |false=>
    replace HT:=hpos HT (by rw [hi];rfl)
    go_wp2_with fail
    go_ret
    exact HA.out.ans HT.out.symm rfl
  |false=>
   go_wp2_with fail
   refine HA.out.stepQ (fun _ h=>P.ident ⟨next.kind,next.text,next.from',next.till,false⟩ h.s) ?_
   clear znext zt yt HA
   intro w4 HA
   obtain⟨znext,zt,-⟩:=HA.out.fs
   have yt:=HA.out.fw 1 rfl
   have hn':=hJ hn
   clear hn
   cases hj:am4 E.m p.flags ⟨next.kind,next.text,next.from',next.till,false⟩ with
   |true=>
    rw [if_pos (by rw [hn'.out,show am4 E.m _ next=_ from hj];rfl)] at HT
    replace HT:=bd9 HT
    go_upto_region 5 with fail
    replace HA:=HA.out.set5 1 rfl rfl (.int .i64 next.kind) (.string next.text) (.int .i64 next.from') (.int .i64 next.till) (.bool next.line)
    clear znext zt yt
    obtain⟨w5,e8,HA⟩:=HA
    rw [e8]
    clear e8
    dsimp only [ae4] at HA
    obtain⟨znext,zt,-⟩:=HA.out.fs
    have yt:=HA.out.fw 1 rfl
    replace HA:=hJ (HA.out.pick [1] [] (by decide))
    dsimp only [pick,nth] at HA
    clear znext zt yt
    obtain⟨zt,-⟩:=HA.out.fs
    have yt:=HA.out.fw 0 rfl
    go_wp2_with fail
    refine HA.out.look hR.ok next.till HT HN ?_
    clear zt yt HT HA
    intro nx w6 HT HA
    obtain⟨zt,-⟩:=HA.out.fs
    have yt:=HA.out.fw 0 rfl
    go_upto_region 6 with fail
    replace HA:=HA.out.pT (g:=w6.heap.size) rfl nx
    clear zt yt
    generalize (w6.alloc (.cells #[.int .i64 nx.kind,.string nx.text,.int .i64 nx.from',.int .i64 nx.till,.bool nx.line] 49))=w7 at*
    obtain⟨znx,zt,-⟩:=HA.out.fs
    have yt:=HA.out.fw 1 rfl
    go_wp2_with fail
    refine HA.out.stepQ (fun _ h=>P.ident next h.s) ?_
    clear znx zt yt HA
    intro w8 HA
    obtain⟨znx,zt,-⟩:=HA.out.fs
    have yt:=HA.out.fw 1 rfl
    cases hi:am4 E.m p.flags next with
    |true=>
     go_wp2_with fail
     refine HA.out.stepQ (fun _ h=>P.punct nx ⟨#[61,62]⟩ _) ?_
     clear znx zt yt HA
     intro w9 HA
     obtain⟨znx,zt,-⟩:=HA.out.fs
     have yt:=HA.out.fw 1 rfl
     cases hp:aa2 nx ⟨#[61,62]⟩ with
     |true=>
      cases hl:nx.line with
      |true=>
       replace HT:=hpos HT (by rw [hi,hp,hl];rfl)
       have hlw:nx.line=true:=hl
       go_wp2_with fail
       go_ret
       exact HA.out.ans HT.out.symm rfl
      |false=>
       replace HT:=hneg HT (by rw [hi,hp,hl];decide)
       go_wp2_with fail
       refine HA.out.leaf 1 next ?_
       clear znx zt yt HA
       intro m am cm w10 HE HA
       rw [HE.out] at HT
       clear HE
       obtain⟨znx,zt,-⟩:=HA.out.fs
       have yt:=HA.out.fw 1 rfl
       go_wp2_with fail
       refine HA.out.stepV HT HN (fun _ h e=>S.target m _ (h.ni 0 rfl) h.s e) ?_ ?_
       ·intro _ _ _ H;go_wp2_with fail;exact⟨rfl,Ans.badh H⟩
       clear znx zt yt HT HA
       intro _ q11 w11 HT HA
       obtain⟨znx,zt,-⟩:=HA.out.fs
       have yt:=HA.out.fw 1 rfl
       go_wp2_with fail
       go_ret
       exact HA.out.ans HT.out.symm rfl
     |false=>
      replace HT:=hpos HT (by rw [hi,hp];rfl)
      go_wp2_with fail
      go_ret
      exact HA.out.ans HT.out.symm rfl
    |false=>
     replace HT:=hpos HT (by rw [hi];rfl)
     go_wp2_with fail
     go_ret
     exact HA.out.ans HT.out.symm rfl
   |false=>
    rw [if_neg (by rw [hn'.out,show am4 E.m _ next=_ from hj];decide)] at HT
    replace HT:=bd9 HT
    go_wp2_with fail
    refine HA.out.look hR.ok t.till HT HN ?_
    clear znext zt yt HT HA
    intro nx w5 HT HA
    obtain⟨znext,zt,-⟩:=HA.out.fs
    have yt:=HA.out.fw 1 rfl
    go_upto_region 6 with fail
    replace HA:=HA.out.pT (g:=w5.heap.size) rfl nx
    clear znext zt yt
    generalize (w5.alloc (.cells #[.int .i64 nx.kind,.string nx.text,.int .i64 nx.from',.int .i64 nx.till,.bool nx.line] 49))=w6 at*
    obtain⟨znx,znext,zt,-⟩:=HA.out.fs
    have yt:=HA.out.fw 2 rfl
    go_wp2_with fail
    refine HA.out.stepQ (fun _ h=>P.ident t h.s) ?_
    clear znx znext zt yt HA
    intro w7 HA
    obtain⟨znx,znext,zt,-⟩:=HA.out.fs
    have yt:=HA.out.fw 2 rfl
    cases hi:am4 E.m p.flags t with
    |true=>
     go_wp2_with fail
     refine HA.out.stepQ (fun _ h=>P.punct nx ⟨#[61,62]⟩ _) ?_
     clear znx znext zt yt HA
     intro w8 HA
     obtain⟨znx,znext,zt,-⟩:=HA.out.fs
     have yt:=HA.out.fw 2 rfl
     cases hp:aa2 nx ⟨#[61,62]⟩ with
     |true=>
      cases hl:nx.line with
      |true=>
       replace HT:=hpos HT (by rw [hi,hp,hl];rfl)
       have hlw:nx.line=true:=hl
       go_wp2_with fail
       go_ret
       exact HA.out.ans HT.out.symm rfl
      |false=>
       replace HT:=hneg HT (by rw [hi,hp,hl];decide)
       go_wp2_with fail
       refine HA.out.leaf 1 t ?_
       clear znx znext zt yt HA
       intro m am cm w9 HE HA
       rw [HE.out] at HT
       clear HE
       obtain⟨znx,znext,zt,-⟩:=HA.out.fs
       have yt:=HA.out.fw 2 rfl
       go_wp2_with fail
       refine HA.out.stepV HT HN (fun _ h e=>S.target m _ (h.ni 0 rfl) h.s e) ?_ ?_
       ·intro _ _ _ H;go_wp2_with fail;exact⟨rfl,Ans.badh H⟩
       clear znx znext zt yt HT HA
       intro _ q10 w10 HT HA
       obtain⟨znx,znext,zt,-⟩:=HA.out.fs
       have yt:=HA.out.fw 2 rfl
       go_wp2_with fail
       go_ret
       exact HA.out.ans HT.out.symm rfl
     |false=>
      replace HT:=hpos HT (by rw [hi,hp];rfl)
      go_wp2_with fail
      go_ret
      exact HA.out.ans HT.out.symm rfl
    |false=>
     replace HT:=hpos HT (by rw [hi];rfl)
     go_wp2_with fail
     go_ret
     exact HA.out.ans HT.out.symm rfl
 |false=>
  rw [if_neg (by rw [ha];decide)] at HT
  replace HT:=bd9 HT
  go_wp2_with fail
  refine HA.out.look hR.ok t.till HT HN ?_
  clear zt yt HT HA
  intro nx w2 HT HA
  obtain⟨zt,-⟩:=HA.out.fs
  have yt:=HA.out.fw 0 rfl
  go_upto_region 6 with fail
  replace HA:=HA.out.pT (g:=w2.heap.size) rfl nx
  clear zt yt
  generalize (w2.alloc (.cells #[.int .i64 nx.kind,.string nx.text,.int .i64 nx.from',.int .i64 nx.till,.bool nx.line] 49))=w3 at*
  obtain⟨znx,zt,-⟩:=HA.out.fs
  have yt:=HA.out.fw 1 rfl
  go_wp2_with fail
  refine HA.out.stepQ (fun _ h=>P.ident t h.s) ?_
  clear znx zt yt HA
  intro w4 HA
  obtain⟨znx,zt,-⟩:=HA.out.fs
  have yt:=HA.out.fw 1 rfl
  cases hi:am4 E.m p.flags t with
  |true=>
   go_wp2_with fail
   refine HA.out.stepQ (fun _ h=>P.punct nx ⟨#[61,62]⟩ _) ?_
   clear znx zt yt HA
   intro w5 HA
   obtain⟨znx,zt,-⟩:=HA.out.fs
   have yt:=HA.out.fw 1 rfl
   cases hp:aa2 nx ⟨#[61,62]⟩ with
   |true=>
    cases hl:nx.line with
    |true=>
     replace HT:=hpos HT (by rw [hi,hp,hl];rfl)
     have hlw:nx.line=true:=hl
     go_wp2_with fail
     go_ret
     exact HA.out.ans HT.out.symm rfl
    |false=>
     replace HT:=hneg HT (by rw [hi,hp,hl];decide)
     go_wp2_with fail
     refine HA.out.leaf 1 t ?_
     clear znx zt yt HA
     intro m am cm w6 HE HA
     rw [HE.out] at HT
     clear HE
     obtain⟨znx,zt,-⟩:=HA.out.fs
     have yt:=HA.out.fw 1 rfl
     go_wp2_with fail
     refine HA.out.stepV HT HN (fun _ h e=>S.target m _ (h.ni 0 rfl) h.s e) ?_ ?_
     ·intro _ _ _ H;go_wp2_with fail;exact⟨rfl,Ans.badh H⟩
     clear znx zt yt HT HA
     intro _ q7 w7 HT HA
     obtain⟨znx,zt,-⟩:=HA.out.fs
     have yt:=HA.out.fw 1 rfl
     go_wp2_with fail
     go_ret
     exact HA.out.ans HT.out.symm rfl
   |false=>
    replace HT:=hpos HT (by rw [hi,hp];rfl)
    go_wp2_with fail
    go_ret
    exact HA.out.ans HT.out.symm rfl
  |false=>
   replace HT:=hpos HT (by rw [hi];rfl)
   go_wp2_with fail
   go_ret
   exact HA.out.ans HT.out.symm rfl
end
section
open Go.RowKit
attribute [local go_sem] ab3 ab4 ab5 ab6 ab7 ab8
attribute [local go_sem ↓] Go.wp_at_zero Go.wp_at_succ
theorem C.assign1 {E:PE} {R:(x:Fn)→PM x.Out} (hR:Env E R) (t:Tk) {pb tb nb:Nat} :
  CloS E (fun j=>j=nb) [(pb,false,.p E.b),(tb,false,.tk t),(nb,true,.nb)] (InB E nb) (do
  let p←getP
  if hasF p.flags 2 && ae7 t ⟨#[121,105,101,108,100]⟩ then R .yield
  else do
   let one←al0.single E.s E.m t
   if one then R (.arrowOf t)
   else do
    modP fun q=> { q with arrow:=t.from' }
    let n←R .cond
    R (.assigned n)) 47 #[.pointer (some ⟨pb,0,none⟩),.pointer (some ⟨tb,0,none⟩),.pointer (some ⟨nb,0,none⟩)]:=by
 intro F w p h hB hd hne
 obtain⟨T,hT⟩: ∃T,(do
   let p←getP
   if hasF p.flags 2 && ae7 t ⟨#[121,105,101,108,100]⟩ then R .yield
   else do
    let one←al0.single E.s E.m t
    if one then R (.arrowOf t)
    else do
     modP fun q=> { q with arrow:=t.from' }
     let n←R .cond
     R (.assigned n)) p=T:=⟨_,rfl⟩
 rw [hT] at hne⊢
 have HT:=hJ hT
 have HN:=hJ hne
 have HA:=Sa.start (X:=(fun j=>j=nb)) h [] _ (fun _ h=>by cases h) hB (by simp) hd
 clear h hne hT hB hd
 replace HT:=hget HT
 obtain⟨zpb,ztb,znb,-⟩:=HA.out.fs
 have ynb:=HA.out.fw 2 rfl
 have cEflags:=HA.out.c_flags
 have lE:=HA.out.lt
 cases hf:(bits .and .i64 p.flags 2==0) with
 |true=>
  have hfw:(bits .and .i64 p.flags 2 !=0)=false:=by rw [bne,hf];rfl
  replace HT:=hneg HT (by unfold hasF;rw [hf];simp)
  go_enter Tryz.func47,Tryz.ntmps47
  go_wp2_with fail
  refine HA.out.stepV HT HN (fun _ h e=>S.single hR t h.s e) ?_ ?_
  ·intro _ _ _ H;go_wp2_with fail;exact⟨rfl,Ans.badh H⟩
  clear zpb ztb znb ynb cEflags lE HT HA
  intro one q1 w1 HT HA
  obtain⟨zpb,ztb,znb,-⟩:=HA.out.fs
  have ynb:=HA.out.fw 2 rfl
  cases one with
  |true=>
   replace HT:=hpos HT (by rfl)
   go_wp2_with fail
   replace HT:=ac9 HT
   refine HA.out.stepN HT HN (fun _ h e=>hR.h (.arrowOf t) _ _ _ h.s e) ?_ ?_
   ·intro _ _ _ H;go_wp2_with fail;exact⟨rfl,Ans.badh H⟩
   clear zpb ztb znb ynb HT HA
   intro n an cn q2 w2 HT HA
   obtain⟨zpb,ztb,znb,-⟩:=HA.out.fs
   have ynb:=HA.out.fw 2 rfl
   go_wp2_with fail
   exact HA.out.fin_cl 2 0 rfl rfl rfl rfl HT.out.symm
  |false=>
   replace HT:=hneg HT (by decide)
   replace HT:=hmod HT
   have cEarrow:=HA.out.c_arrow
   have lE:=HA.out.lt
   have fE:=HA.out.frozen 13
   go_upto_region 1 with fail
   replace HA:=HA.out.setE hR.ok.hb 13 (.int .i64 t.from') { q1 with arrow:=t.from' } (fun _ _ _=>rfl) rfl rfl rfl rfl
   clear zpb ztb znb ynb cEarrow lE fE
   obtain⟨w2,e8,HA⟩:=HA
   rw [e8]
   clear e8
   obtain⟨zpb,ztb,znb,-⟩:=HA.out.fs
   have ynb:=HA.out.fw 2 rfl
   rcases at1 HT HN with ⟨x,r59,HX,hk⟩|⟨c,i,HX,hk⟩
   ·replace HT:=hk;clear hk
    replace HT:=ac9 HT
    rcases at1 HT HN with ⟨n,r62,HX2,hk⟩|⟨c,i,HX2,hk⟩
    ·replace HT:=hk;clear hk
     go_wp2_with fail
     replace HA:=HA.out.drew
     go_region_with (first|(go_at_call 53;refine HA.out.gotN HX (fun _ h e=>hR.h .cond _ _ _ h.s e) ?_;clear zpb ztb znb ynb HA;intro ax cx w3 HA;obtain⟨zpb,ztb,znb,-⟩:=HA.out.fs;have ynb:=HA.out.fw 2 rfl)|(go_at_call 52;refine HA.out.gotN HX2 (fun _ h e=>hR.h (.assigned x) _ _ _ _ (h.ni 0 rfl) h.s e) ?_;clear zpb ztb znb ynb HA;intro an cn w4 HA;obtain⟨zpb,ztb,znb,-⟩:=HA.out.fs;have ynb:=HA.out.fw 2 rfl))
     all_goals
      go_wp2_with fail
      exact HA.out.fin_cl 2 0 rfl rfl rfl rfl HT.out.symm
    ·replace HT:=hk;clear hk
     go_wp2_with fail
     replace HA:=HA.out.drew
     go_region_with (first|(go_at_call 53;refine HA.out.gotN HX (fun _ h e=>hR.h .cond _ _ _ h.s e) ?_;clear zpb ztb znb ynb HA;intro ax cx w3 HA;obtain⟨zpb,ztb,znb,-⟩:=HA.out.fs;have ynb:=HA.out.fw 2 rfl)|(go_at_call 52;refine HA.out.gotbad (.agg #[.int .i64 0,.string ⟨#[]⟩,.slice none 0 0,.int .i64 0,.int .i64 0]) HX2 HT (fun _ h e=>hR.h (.assigned x) _ _ _ _ (h.ni 0 rfl) h.s e) (fun _ H=>by (go_wp2_with fail);exact⟨rfl,Ans.badh H⟩) ?_;intro HF))
     all_goals
      exact HF.out.elim
   ·replace HT:=hk;clear hk
    go_wp2_with fail
    replace HA:=HA.out.drew
    go_region_with (first|(go_at_call 53;refine HA.out.gotbad (.agg #[.int .i64 0,.string ⟨#[]⟩,.slice none 0 0,.int .i64 0,.int .i64 0]) HX HT (fun _ h e=>hR.h .cond _ _ _ h.s e) (fun _ H=>by (go_wp2_with fail);exact⟨rfl,Ans.badh H⟩) ?_;intro HF)|(go_at_call 52;refine av1 (.agg #[.int .i64 0,.string ⟨#[]⟩,.slice none 0 0,.int .i64 0,.int .i64 0]) HF ?_))
    all_goals
     exact HF.out.elim
 |false=>
  have hfw:(bits .and .i64 p.flags 2 !=0)=true:=by rw [bne,hf];rfl
  go_enter Tryz.func47,Tryz.ntmps47
  go_wp2_with fail
  refine HA.out.stepQ (fun _ h=>P.name t ⟨#[121,105,101,108,100]⟩ _) ?_
  clear zpb ztb znb ynb cEflags lE HA
  intro w1 HA
  obtain⟨zpb,ztb,znb,-⟩:=HA.out.fs
  have ynb:=HA.out.fw 2 rfl
  cases hy:ae7 t ⟨#[121,105,101,108,100]⟩ with
  |true=>
   replace HT:=hpos HT (by rw [hy];unfold hasF;rw [hf];decide)
   go_wp2_with fail
   replace HT:=ac9 HT
   refine HA.out.stepN HT HN (fun _ h e=>hR.h .yield _ _ _ h.s e) ?_ ?_
   ·intro _ _ _ H;go_wp2_with fail;exact⟨rfl,Ans.badh H⟩
   clear zpb ztb znb ynb HT HA
   intro n an cn q2 w2 HT HA
   obtain⟨zpb,ztb,znb,-⟩:=HA.out.fs
   have ynb:=HA.out.fw 2 rfl
   go_wp2_with fail
   exact HA.out.fin_cl 2 0 rfl rfl rfl rfl HT.out.symm
  |false=>
   replace HT:=hneg HT (by rw [hy];simp)
   go_wp2_with fail
   refine HA.out.stepV HT HN (fun _ h e=>S.single hR t h.s e) ?_ ?_
   ·intro _ _ _ H;go_wp2_with fail;exact⟨rfl,Ans.badh H⟩
   clear zpb ztb znb ynb HT HA
   intro one q2 w2 HT HA
   obtain⟨zpb,ztb,znb,-⟩:=HA.out.fs
   have ynb:=HA.out.fw 2 rfl
   cases one with
   |true=>
    replace HT:=hpos HT (by rfl)
    go_wp2_with fail
    replace HT:=ac9 HT
    refine HA.out.stepN HT HN (fun _ h e=>hR.h (.arrowOf t) _ _ _ h.s e) ?_ ?_
    ·intro _ _ _ H;go_wp2_with fail;exact⟨rfl,Ans.badh H⟩
    clear zpb ztb znb ynb HT HA
    intro n an cn q3 w3 HT HA
    obtain⟨zpb,ztb,znb,-⟩:=HA.out.fs
    have ynb:=HA.out.fw 2 rfl
    go_wp2_with fail
    exact HA.out.fin_cl 2 0 rfl rfl rfl rfl HT.out.symm
   |false=>
    replace HT:=hneg HT (by decide)
    replace HT:=hmod HT
    have cEarrow:=HA.out.c_arrow
    have lE:=HA.out.lt
    have fE:=HA.out.frozen 13
    go_upto_region 1 with fail
    replace HA:=HA.out.setE hR.ok.hb 13 (.int .i64 t.from') { q2 with arrow:=t.from' } (fun _ _ _=>rfl) rfl rfl rfl rfl
    clear zpb ztb znb ynb cEarrow lE fE
    obtain⟨w3,e8,HA⟩:=HA
    rw [e8]
    clear e8
    obtain⟨zpb,ztb,znb,-⟩:=HA.out.fs
    have ynb:=HA.out.fw 2 rfl
    rcases at1 HT HN with ⟨x,r140,HX,hk⟩|⟨c,i,HX,hk⟩
    ·replace HT:=hk;clear hk
     replace HT:=ac9 HT
     rcases at1 HT HN with ⟨n,r143,HX2,hk⟩|⟨c,i,HX2,hk⟩
     ·replace HT:=hk;clear hk
      go_wp2_with fail
      replace HA:=HA.out.drew
      go_region_with (first|(go_at_call 53;refine HA.out.gotN HX (fun _ h e=>hR.h .cond _ _ _ h.s e) ?_;clear zpb ztb znb ynb HA;intro ax cx w4 HA;obtain⟨zpb,ztb,znb,-⟩:=HA.out.fs;have ynb:=HA.out.fw 2 rfl)|(go_at_call 52;refine HA.out.gotN HX2 (fun _ h e=>hR.h (.assigned x) _ _ _ _ (h.ni 0 rfl) h.s e) ?_;clear zpb ztb znb ynb HA;intro an cn w5 HA;obtain⟨zpb,ztb,znb,-⟩:=HA.out.fs;have ynb:=HA.out.fw 2 rfl))
      all_goals
       go_wp2_with fail
       exact HA.out.fin_cl 2 0 rfl rfl rfl rfl HT.out.symm
     ·replace HT:=hk;clear hk
      go_wp2_with fail
      replace HA:=HA.out.drew
      go_region_with (first|(go_at_call 53;refine HA.out.gotN HX (fun _ h e=>hR.h .cond _ _ _ h.s e) ?_;clear zpb ztb znb ynb HA;intro ax cx w4 HA;obtain⟨zpb,ztb,znb,-⟩:=HA.out.fs;have ynb:=HA.out.fw 2 rfl)|(go_at_call 52;refine HA.out.gotbad (.agg #[.int .i64 0,.string ⟨#[]⟩,.slice none 0 0,.int .i64 0,.int .i64 0]) HX2 HT (fun _ h e=>hR.h (.assigned x) _ _ _ _ (h.ni 0 rfl) h.s e) (fun _ H=>by (go_wp2_with fail);exact⟨rfl,Ans.badh H⟩) ?_;intro HF))
      all_goals
       exact HF.out.elim
    ·replace HT:=hk;clear hk
     go_wp2_with fail
     replace HA:=HA.out.drew
     go_region_with (first|(go_at_call 53;refine HA.out.gotbad (.agg #[.int .i64 0,.string ⟨#[]⟩,.slice none 0 0,.int .i64 0,.int .i64 0]) HX HT (fun _ h e=>hR.h .cond _ _ _ h.s e) (fun _ H=>by (go_wp2_with fail);exact⟨rfl,Ans.badh H⟩) ?_;intro HF)|(go_at_call 52;refine av1 (.agg #[.int .i64 0,.string ⟨#[]⟩,.slice none 0 0,.int .i64 0,.int .i64 0]) HF ?_))
     all_goals
      exact HF.out.elim
theorem S.assign {E:PE} {R:(x:Fn)→PM x.Out} (hR:Env E R) {F:Nat→Prop} {w:World} {p:Ps} (h:St E F w p) (hne:al0 E.s E.m R p≠ .out):
  Calls Tryz.prog 27 #[.pointer (some ⟨E.b,0,none⟩)] w (Ans E F X0 w (al0 E.s E.m R p) fun n v w'=>IsP E F w' n v):=by
 obtain⟨T,hT⟩: ∃T,al0 E.s E.m R p=T:=⟨_,rfl⟩
 rw [hT] at hne⊢
 unfold al0 at hT
 have HT:=hJ hT
 have HN:=hJ hne
 have HA:=Sa.start0 (X:=X0) h
 clear h hne hT
 go_enter Tryz.func27,Tryz.ntmps27
 go_wp2_with fail
 replace HA:=HA.out.pP (g:=w.heap.size) rfl
 replace HA:=HA.out.pZ (g:=(w.heap.size+1)) (by simp)
 refine HA.out.stepV HT HN (fun _ h e=>P.peek hR.ok 2 h.s e) ?_ ?_
 ·intro _ _ _ H;go_wp2_with fail;exact⟨rfl,Ans.badh H⟩
 clear HT HA
 intro t q1 w1 HT HA
 obtain⟨zr,zpb,-⟩:=HA.out.fs
 have yr:=HA.out.fw 0 rfl
 go_wp2_with fail
 replace HT:=ac9 HT
 replace HA:=HA.out.pT (g:=w1.heap.size) rfl t
 refine HA.out.deeper hR.ok t.from' HT HN (fun _=>by kernel_rfl) (C.assign1 hR t) (.tail _ (.tail _ (.head _))) [2,0,1] ⟨⟨_,_,rfl,.inl rfl⟩,⟨_,_,rfl,.inl rfl⟩,⟨_,_,rfl,.inr ⟨rfl,_,_,_,_,_,_,_,rfl⟩⟩,trivial⟩ (by decide) 1 rfl ?_ ?_
 ·intro _ _ _ H;go_wp2_with fail;exact⟨rfl,Ans.badh H⟩
 clear zr zpb yr HT HA
 intro n an cn q2 w2 HT HA
 dsimp only [ae4] at HA
 obtain⟨zt,zr,zpb,-⟩:=HA.out.fs
 have yr:=HA.out.fw 1 rfl
 go_wp2_with fail
 exact HA.out.fin_nd 1 0 rfl rfl rfl rfl rfl HT.out.symm
end
end Go.Proofs.YtnobjeelihkjmaaGreatDoor
