/- Steps (Qt Qe Qq). Conditions: as stated. -/
import Derived.Test.YtibpjkkgfgmkmaaGreatDoorZc15
import Derived.Test.YtibpjkkgfgmkmaaGreatDoorZc20
set_option maxHeartbeats 4000000
set_option maxRecDepth 100000
namespace Go.Proofs.YtibpjkkgfgmkmaaGreatDoor
section
open Go.RowKit
attribute [local go_sem] ab5 ab6 ab7 ab8 ab9 ac0
attribute [local go_sem ↓] Go.wp_at_zero Go.wp_at_succ
theorem bN2 {fn:Func} {r u z:Tmp} (h:fn.results= #[.cell r 28,.tmp u,.tmp z]) (tmps:Array Value) (w:World) (g:Nat) {k:Int} {t:ByteArray} {b:Option Addr} {n cap:Nat} {f y:Int} (hp:tmps.getD r undef= .pointer (some ⟨g,0,none⟩)) (hx:ac3 w g k t b n cap f y):
  (results fn tmps).run Tryz.prog w= .ok (.tuple #[.agg (aa7 k t b n cap f y),tmps.getD u undef,tmps.getD z undef]) w:=by
 have hp':tmps[r]?.getD undef= .pointer (some ⟨g,0,none⟩):=by simpa using hp
 have hl:(loadVar 28 ⟨g,0,none⟩).run Tryz.prog w= .ok (.agg (aa7 k t b n cap f y)) w:=run_loadVar_row w g 28 28 _ (0,0) _ hx Tryz.underlying28 rfl (by kernel_rfl)
 simp [results,h,hp',asAddr,hl]
theorem aU8 (n:Nd) (a:Option Addr) (cap:Nat) (w:World) (S:Nat→Prop) (hS: ∀k,S k→k<w.heap.size) (hr:RowS w S n.kids a 0) (ht:aj8 n=true) (hc:n.kids.length≤cap):
  Calls Tryz.prog 214 #[.agg #[.int .i64 n.kind,.string n.text,.slice a n.kids.length cap,.int .i64 n.from',.int .i64 n.till]] w fun e w'=>e= .returned (.tuple #[.agg #[.int .i64 n.kind,.string n.text,.slice a n.kids.length cap,.int .i64 n.from',.int .i64 n.till],.nilIface])∧Below w.heap.size w w':=by
 have hB:Below w.heap.size w (((w.alloc (.cells #[.int .i64 n.kind,.string n.text,.slice a n.kids.length cap,.int .i64 n.from',.int .i64 n.till] 214)).alloc (.cells #[.int .i64 0,.string ⟨#[]⟩,.slice none 0 0,.int .i64 0,.int .i64 0] 28)).alloc (.cells #[.int .i64 n.kind,.string n.text,.slice a n.kids.length cap,.int .i64 n.from',.int .i64 n.till] 28)):=(Below.alloc (Below.alloc (Below.alloc (Below.refl _ w) (Nat.le_refl _) _) (by rw [World.size_alloc];omega) _) (by rw [World.size_alloc,World.size_alloc];omega) _)
 have hR:NB (((w.alloc (.cells #[.int .i64 n.kind,.string n.text,.slice a n.kids.length cap,.int .i64 n.from',.int .i64 n.till] 214)).alloc (.cells #[.int .i64 0,.string ⟨#[]⟩,.slice none 0 0,.int .i64 0,.int .i64 0] 28)).alloc (.cells #[.int .i64 n.kind,.string n.text,.slice a n.kids.length cap,.int .i64 n.from',.int .i64 n.till] 28)) (w.heap.size+1):=(ac3.nb (ac3.new (by simp):ac3 ((w.alloc (.cells #[.int .i64 n.kind,.string n.text,.slice a n.kids.length cap,.int .i64 n.from',.int .i64 n.till] 214)).alloc (.cells #[.int .i64 0,.string ⟨#[]⟩,.slice none 0 0,.int .i64 0,.int .i64 0] 28)) (w.heap.size+1) 0 ⟨#[]⟩ none 0 0 0 0)).alloc _
 have hN:ac3 (((w.alloc (.cells #[.int .i64 n.kind,.string n.text,.slice a n.kids.length cap,.int .i64 n.from',.int .i64 n.till] 214)).alloc (.cells #[.int .i64 0,.string ⟨#[]⟩,.slice none 0 0,.int .i64 0,.int .i64 0] 28)).alloc (.cells #[.int .i64 n.kind,.string n.text,.slice a n.kids.length cap,.int .i64 n.from',.int .i64 n.till] 28)) (w.heap.size+1+1) n.kind n.text a n.kids.length cap n.from' n.till:=ac3.new (by simp)
 have HC:=hJ (ar8 n (.agg #[.int .i64 n.kind,.string n.text,.slice a n.kids.length cap,.int .i64 n.from',.int .i64 n.till]) (((w.alloc (.cells #[.int .i64 n.kind,.string n.text,.slice a n.kids.length cap,.int .i64 n.from',.int .i64 n.till] 214)).alloc (.cells #[.int .i64 0,.string ⟨#[]⟩,.slice none 0 0,.int .i64 0,.int .i64 0] 28)).alloc (.cells #[.int .i64 n.kind,.string n.text,.slice a n.kids.length cap,.int .i64 n.from',.int .i64 n.till] 28)) S (fun k hk=>Nat.lt_of_lt_of_le (hS k hk) hB.size) ⟨a,cap,rfl,hc,ad4 (fun _ h=>h) (fun k hk=>hB.block k (hS k hk)) hr⟩)
 rw [ht] at HC
 clear hr ht hS
 go_enter Tryz.func214,Tryz.ntmps214
 go_wp2_with fail
 refine HC.out.mono ?_
 rintro e w2 ⟨rfl,hb⟩
 replace hR:=hR.same (hb.block _ hR.lt)
 replace hN:=hN.same (hb.block _ hN.lt)
 replace hB:=hB.trans (hb.mono hB.size)
 clear hb HC
 have HR:=hJ hR
 have HN:=hJ hN
 have HB:=hJ hB
 obtain⟨_,_,_,_,_,_,_,_,_,_,_,_,y0,y1,y2,y3,y4⟩:=hR.fs
 obtain⟨z0,z1,z2,z3,z4,_⟩:=hN.facts
 clear hR hN hB
 go_wp2_with fail
 refine bodyPost_ret (bt6 rfl _ _ (w.heap.size+1) rfl (HR.out.lay n.kind n.text a n.kids.length cap n.from' n.till)) rfl ?_
 exact⟨rfl,Pc.lay5_bel HB.out (Nat.le_succ _) _ _ _ _ _⟩
theorem aI2 (n:Nd) (a:Option Addr) (cap:Nat) (w:World) (S:Nat→Prop) (hS: ∀k,S k→k<w.heap.size) (hr:RowS w S n.kids a 0) (ht:aj8 n=true) (hc:n.kids.length≤cap) (hsz:aa0 n≤4194304):
  Calls Tryz.prog 153 #[.agg #[.int .i64 n.kind,.string n.text,.slice a n.kids.length cap,.int .i64 n.from',.int .i64 n.till]] w fun e w'=> ∃u L,e= .returned (.tuple #[u,.int .i64 0,.int .i64 0])∧w.heap.size≤L∧NdV w' L w'.heap.size n u∧Below w.heap.size w w':=by
 have hB:Below w.heap.size w ((w.alloc (.cells #[.int .i64 n.kind,.string n.text,.slice a n.kids.length cap,.int .i64 n.from',.int .i64 n.till] 28)).alloc (.cells #[.int .i64 0,.string ⟨#[]⟩,.slice none 0 0,.int .i64 0,.int .i64 0] 28)):=(Below.alloc (Below.alloc (Below.refl _ w) (Nat.le_refl _) _) (by rw [World.size_alloc];omega) _)
 have hR:NB ((w.alloc (.cells #[.int .i64 n.kind,.string n.text,.slice a n.kids.length cap,.int .i64 n.from',.int .i64 n.till] 28)).alloc (.cells #[.int .i64 0,.string ⟨#[]⟩,.slice none 0 0,.int .i64 0,.int .i64 0] 28)) (w.heap.size+1):=ac3.nb (ac3.new (by simp):ac3 ((w.alloc (.cells #[.int .i64 n.kind,.string n.text,.slice a n.kids.length cap,.int .i64 n.from',.int .i64 n.till] 28)).alloc (.cells #[.int .i64 0,.string ⟨#[]⟩,.slice none 0 0,.int .i64 0,.int .i64 0] 28)) (w.heap.size+1) 0 ⟨#[]⟩ none 0 0 0 0)
 have HC:=hJ (aU8 n a cap _ S (fun k hk=>Nat.lt_of_lt_of_le (hS k hk) hB.size) (ad4 (fun _ h=>h) (fun k hk=>hB.block k (hS k hk)) hr) ht hc)
 have HD:=hJ fun W (hW:Below w.heap.size w W)=>bh3 n a cap W S (fun k hk=>Nat.lt_of_lt_of_le (hS k hk) hW.size) hc (ad4 (fun _ h=>h) (fun k hk=>hW.block k (hS k hk)) hr) hsz
 have hnil: ∀W:World,(binOp BinOp.neq 107 .nilIface .nilIface).run Tryz.prog W= .ok (.bool false) W:=fun _=>by kernel_rfl
 clear hr ht hS
 go_enter Tryz.func153,Tryz.ntmps153
 go_wp2_with fail
 refine HC.out.mono ?_
 rintro e w2 ⟨rfl,hb⟩
 replace hR:=hR.same (hb.block _ hR.lt)
 replace hB:=hB.trans (hb.mono hB.size)
 clear hb HC
 have HR:=hJ (hR.alloc (.cells #[.int .i64 n.kind,.string n.text,.slice a n.kids.length cap,.int .i64 n.from',.int .i64 n.till] 28))
 have HB:=hJ (hB.alloc hB.size (.cells #[.int .i64 n.kind,.string n.text,.slice a n.kids.length cap,.int .i64 n.from',.int .i64 n.till] 28))
 clear hR hB
 go_wp2_with fail
 refine(HD.out _ HB.out).mono ?_
 rintro e w3 ⟨u,rfl,hv,hb⟩
 have hR:=HR.out.same (hb.block _ HR.out.lt)
 have hL:=HB.out.size
 have HLT:=hJ HR.out.lt
 replace HB:=hJ (HB.out.trans (hb.mono HB.out.size))
 obtain⟨b',c',rfl,hc',hr'⟩:=hv
 unfold aa7
 have HV:=hJ hr'
 have HL:=hJ hL
 replace HR:=hJ hR
 obtain⟨_,_,_,_,_,_,_,_,_,_,_,_,y0,y1,y2,y3,y4⟩:=hR.fs
 have lR:=hR.lt
 clear hR hr' hb HD hL
 go_wp2_with fail
 refine bodyPost_ret (bN2 rfl _ _ (w.heap.size+1) rfl (HR.out.lay n.kind n.text b' n.kids.length c' n.from' n.till)) rfl ?_
 have hb5:Below w.heap.size w _:=Pc.lay5_bel HB.out (Nat.le_succ w.heap.size) (.int .i64 n.kind) (.string n.text) (.slice b' n.kids.length c') (.int .i64 n.from') (.int .i64 n.till)
 refine⟨_,_,rfl,HL.out,⟨b',c',rfl,hc',?_⟩,hb5⟩
 refine ah9 (Nat.le_refl _) (by simp [World.setCell]) (fun k h1 _=> ?_) HV.out
 have hne:k≠w.heap.size+1:=by
  have:=HLT.out
  omega
 exact Cd.lay5_block _ _ _ _ _ _ _ _ hne
theorem Sa.cover {E:PE} {F0 X:Nat→Prop} {w0 w:World} {q:Ps} {bs:List Box} {ns:List Kd} {ro:Ro} {K:Ending→World→Prop} (h:Sa E F0 X w0 w q bs ns ro) (i:Nat) {n:Nd} {a:Option Addr} {c:Nat} (hi:nth ns i=some (n,a,c)) (ht:aj8 n=true) (hsz:aa0 n≤4194304) (hok: ∀a c w1,Hid (Sa E F0 X w0 w1 q bs ((n,a,c)::ns) ro)→K (.returned (.tuple #[.agg #[.int .i64 n.kind,.string n.text,.slice a n.kids.length c,.int .i64 n.from',.int .i64 n.till],.int .i64 0,.int .i64 0])) w1):
  Calls Tryz.prog 153 #[.agg #[.int .i64 n.kind,.string n.text,.slice a n.kids.length c,.int .i64 n.from',.int .i64 n.till]] w K:=by
 obtain⟨F,h⟩:=h
 obtain⟨a9,c9,hv9,hc9,hr9⟩:=h.ni i hi
 have e9:a9=a∧c9=c:=by
  simp only [Value.agg.injEq] at hv9
  have:=congrArg (fun c:Array Value=>c[2]?) hv9
  simp at this
  exact⟨this.1.symm,this.2.symm⟩
 obtain⟨rfl,rfl⟩:=e9
 refine(aI2 n a9 c9 _ _ (fun k hk=>hk.1) hr9 ht hc9 hsz).mono fun e w1 ⟨u,L,he,hL,hv,hb⟩=> ?_
 have hn:=bp3 h.s hL hv hb
 obtain⟨a',c',rfl,hn⟩:=hn.form
 subst he
 exact hok a' c' w1 ((h.keep (Only.of_below hb)).node hn).a
theorem S.pattern {E:PE} {F:Nat→Prop} {w:World} {p:Ps} (n:Nd) (v:Value) (hn:IsP E F w n v) (h:St E F w p) (hne:at5 n p≠ .out):
  Calls Tryz.prog 85 #[.pointer (some ⟨E.b,0,none⟩),v] w (Ans E F X0 w (at5 n p) fun n v w'=>IsP E F w' n v):=by
 obtain⟨T,hT⟩: ∃T,at5 n p=T:=⟨_,rfl⟩
 rw [hT] at hne⊢
 unfold at5 at hT
 have HT:=hJ hT
 have HN:=hJ hne
 obtain⟨an,cn,rfl,hn0⟩:=hn.form
 have HA:=Sa.start1 (X:=X0) h hn0
 clear h hne hT hn hn0
 replace HT:=hget HT
 go_enter Tryz.func85,Tryz.ntmps85
 go_upto_region 1 with fail
 replace HA:=HA.out.pN (g:=w.heap.size) rfl n an cn
 replace HA:=HA.out.pZ (g:=(w.heap.size+1)) (by simp)
 generalize ((w.alloc (.cells #[.int .i64 n.kind,.string n.text,.slice an n.kids.length cn,.int .i64 n.from',.int .i64 n.till] 28)).alloc (.cells #[.int .i64 0,.string ⟨#[]⟩,.slice none 0 0,.int .i64 0,.int .i64 0] 28))=w1 at*
 obtain⟨zr,zn,-⟩:=HA.out.fs
 have yr:=HA.out.fw 0 rfl
 obtain⟨mb,cl,hc14,hlen,hcl⟩:=HA.out.clen
 have lE:=HA.out.lt
 by_cases h0:cl=0
 ·have hcm:p.commas= []:=hcl.1 h0
  replace HT:=hneg HT (by rw [hcm];simp)
  subst h0
  have HCM:=hJ hcm
  clear hcm hcl
  unfold bn5 at HT
  cases ht:(aj8 n && decide (aa0 n≤4194304)) with
  |true=>
   replace HT:=hpos HT (by exact ht)
   obtain⟨ht1,ht2⟩:=Bool.and_eq_true_iff.1 ht
   have HT1:=hJ ht1
   have HT2:=hJ (of_decide_eq_true ht2)
   clear ht ht1 ht2
   go_wp2_with fail
   refine HA.out.cover 0 rfl HT1.out HT2.out ?_
   clear zr zn yr hc14 hlen lE HA
   intro an cn w2 HA
   obtain⟨zr,zn,-⟩:=HA.out.fs
   have yr:=HA.out.fw 0 rfl
   go_wp2_with fail
   exact HA.out.fin_ndA 0 0 rfl rfl rfl rfl rfl HT.out.symm
  |false=>
   replace HT:=hneg HT (by rw [ht];decide)
   exact absurd HT.out.symm HN.out
 ·have hcm:p.commas.isEmpty=false:=by
   cases hc:p.commas with
   |nil=>exact absurd (hcl.2 hc) h0
   |cons x l=>rfl
  have hps:(0:Int)<(cl:Int):=by omega
  have hps2:decide ((0:Int)<(cl:Int))=true:=decide_eq_true hps
  clear hcl
  by_cases hk11:n.kind=11
  ·replace HT:=hpos HT (by rw [hcm,decide_eq_true hk11];simp)
   exact absurd HT.out.symm HN.out
  ·by_cases hk12:n.kind=12
   ·replace HT:=hpos HT (by rw [hcm,decide_eq_true hk12];simp)
    exact absurd HT.out.symm HN.out
   ·have hk11w:=kf hk11
    have hk12w:=kf hk12
    replace HT:=hneg HT (by rw [hcm,decide_eq_false hk11,decide_eq_false hk12];decide)
    have hk11':=hJ hk11
    clear hk11
    have hk12':=hJ hk12
    clear hk12
    unfold bn5 at HT
    cases ht:(aj8 n && decide (aa0 n≤4194304)) with
    |true=>
     replace HT:=hpos HT (by exact ht)
     obtain⟨ht1,ht2⟩:=Bool.and_eq_true_iff.1 ht
     have HT1:=hJ ht1
     have HT2:=hJ (of_decide_eq_true ht2)
     clear ht ht1 ht2
     go_wp2_with fail
     refine HA.out.cover 0 rfl HT1.out HT2.out ?_
     clear zr zn yr hc14 hlen lE HA
     intro an cn w2 HA
     obtain⟨zr,zn,-⟩:=HA.out.fs
     have yr:=HA.out.fw 0 rfl
     go_wp2_with fail
     exact HA.out.fin_ndA 0 0 rfl rfl rfl rfl rfl HT.out.symm
    |false=>
     replace HT:=hneg HT (by rw [ht];decide)
     exact absurd HT.out.symm HN.out
end
section
open Go.RowKit
attribute [local go_sem] ab5 ab6 ab7 ab8 ab9 ac0
attribute [local go_sem ↓] Go.wp_at_zero Go.wp_at_succ
theorem S.assigned {E:PE} {R:(x:Fn)→PM x.Out} (hR:Env E R) {F:Nat→Prop} {w:World} {p:Ps} (n:Nd) (v:Value) (hn:IsP E F w n v) (h:St E F w p) (hne:am7 E.s R n p≠ .out):
  Calls Tryz.prog 51 #[.pointer (some ⟨E.b,0,none⟩),v] w (Ans E F X0 w (am7 E.s R n p) fun n v w'=>IsP E F w' n v):=by
 obtain⟨T,hT⟩: ∃T,am7 E.s R n p=T:=⟨_,rfl⟩
 rw [hT] at hne⊢
 unfold am7 at hT
 have HT:=hJ hT
 have HN:=hJ hne
 obtain⟨an,cn,rfl,hn0⟩:=hn.form
 have HA:=Sa.start1 (X:=X0) h hn0
 clear h hne hT hn hn0
 go_enter Tryz.func51,Tryz.ntmps51
 go_upto_region 1 with fail
 replace HA:=HA.out.pN (g:=w.heap.size) rfl n an cn
 replace HA:=HA.out.pZ (g:=(w.heap.size+1)) (by simp)
 generalize ((w.alloc (.cells #[.int .i64 n.kind,.string n.text,.slice an n.kids.length cn,.int .i64 n.from',.int .i64 n.till] 28)).alloc (.cells #[.int .i64 0,.string ⟨#[]⟩,.slice none 0 0,.int .i64 0,.int .i64 0] 28))=w1 at*
 obtain⟨zr,zn,-⟩:=HA.out.fs
 have yr:=HA.out.fw 0 rfl
 have yn:=HA.out.fw 1 rfl
 by_cases hk22:n.kind=22
 ·have hk22w:=kt hk22
  replace HT:=hpos HT (by exact hk22)
  have hk22':=hJ hk22
  clear hk22
  go_wp2_with fail
  exact HA.out.fin_nd 0 0 rfl rfl rfl rfl rfl HT.out.symm
 ·have hk22w:=kf hk22
  replace HT:=hneg HT (by exact hk22)
  have hk22':=hJ hk22
  clear hk22
  go_wp2_with fail
  refine HA.out.stepV HT HN (fun _ h e=>P.peek hR.ok 1 h.s e) ?_ ?_
  ·intro _ _ _ H;go_wp2_with fail;exact⟨rfl,Ans.badh H⟩
  clear zr zn yr yn HT HA
  intro t q2 w2 HT HA
  obtain⟨zr,zn,-⟩:=HA.out.fs
  have yr:=HA.out.fw 0 rfl
  have yn:=HA.out.fw 1 rfl
  go_wp2_with fail
  replace HA:=HA.out.pT (g:=w2.heap.size) rfl t
  refine HA.out.stepQ (fun _ h=>aM3 t _ (hR.ok.lx.bel h.s.bel)) ?_
  clear zr zn yr yn HA
  intro w3 HA
  obtain⟨zt,zr,zn,-⟩:=HA.out.fs
  have yr:=HA.out.fw 1 rfl
  have yn:=HA.out.fw 2 rfl
  cases ha:af1 t with
  |true=>
   replace HT:=hpos HT (by exact ha)
   go_upto_region 6 with fail
   clear zt zr zn yr yn
   generalize w3=w4 at*
   obtain⟨zt,zr,zn,-⟩:=HA.out.fs
   have yr:=HA.out.fw 1 rfl
   have yn:=HA.out.fw 2 rfl
   by_cases he:t.text=⟨#[61]⟩
   ·have hew:(t.text.toList== [61])=true:=xt he
    rw [if_pos (by exact he)] at HT
    have he':=hJ he
    clear he
    go_wp2_with fail
    refine HA.out.stepN HT HN (fun _ h e=>S.pattern n _ (h.ni 0 rfl) h.s e) ?_ ?_
    ·intro _ _ _ H;go_wp2_with fail;exact⟨rfl,Ans.badh H⟩
    clear zt zr zn yr yn HT HA
    intro m am cm q5 w5 HT HA
    obtain⟨zt,zr,zn,-⟩:=HA.out.fs
    have yr:=HA.out.fw 1 rfl
    have yn:=HA.out.fw 2 rfl
    go_upto_region 9 with fail
    replace HA:=HA.out.setN 2 0 rfl rfl rfl
    clear zt zr zn yr yn
    obtain⟨w6,e8,HA⟩:=HA
    rw [e8]
    clear e8
    dsimp only [ad3] at HA
    obtain⟨zt,zr,zn,-⟩:=HA.out.fs
    have yr:=HA.out.fw 1 rfl
    have yn:=HA.out.fw 2 rfl
    go_wp2_with fail
    refine HA.out.stepV HT HN (fun _ h e=>P.take hR.ok h.s e) ?_ ?_
    ·intro _ _ _ H;go_wp2_with fail;exact⟨rfl,Ans.badh H⟩
    clear zt zr zn yr yn HT HA
    intro _ q7 w7 HT HA
    obtain⟨zt,zr,zn,-⟩:=HA.out.fs
    have yr:=HA.out.fw 1 rfl
    have yn:=HA.out.fw 2 rfl
    go_wp2_with fail
    refine HA.out.stepN HT HN (fun _ h e=>hR.h .assign _ _ _ h.s e) ?_ ?_
    ·intro _ _ _ H;go_wp2_with fail;exact⟨rfl,Ans.badh H⟩
    clear zt zr zn yr yn HT HA
    intro y ay cy q8 w8 HT HA
    obtain⟨zt,zr,zn,-⟩:=HA.out.fs
    have yr:=HA.out.fw 1 rfl
    have yn:=HA.out.fw 2 rfl
    replace HT:=ab4 HT
    go_wp2_with fail
    replace HA:=HA.out.pN (g:=w8.heap.size) rfl y ay cy
    refine HA.out.node 30 t.text m.from' [(m,am,cm),(y,ay,cy)] (by simp) rfl (by simp) rfl rfl HT ?_
    clear zt zr zn yr yn HT HA
    intro z az cz w9 _ HT HA
    obtain⟨zy,zt,zr,zn,-⟩:=HA.out.fs
    have yr:=HA.out.fw 2 rfl
    have yn:=HA.out.fw 3 rfl
    go_wp2_with fail
    exact HA.out.fin_nd 2 0 rfl rfl rfl rfl rfl HT.out.symm
   ·have hew:(t.text.toList== [61])=false:=xf he
    rw [if_neg (by exact he)] at HT
    have he':=hJ he
    clear he
    replace HT:=aF3 HT
    go_wp2_with fail
    refine HA.out.stepV HT HN (fun _ h e=>S.target n _ (h.ni 0 rfl) h.s e) ?_ ?_
    ·intro _ _ _ H;go_wp2_with fail;exact⟨rfl,Ans.badh H⟩
    clear zt zr zn yr yn HT HA
    intro _ q5 w5 HT HA
    obtain⟨zt,zr,zn,-⟩:=HA.out.fs
    have yr:=HA.out.fw 1 rfl
    have yn:=HA.out.fw 2 rfl
    replace HT:=aI4 HT
    go_wp2_with fail
    refine HA.out.stepV HT HN (fun _ h e=>P.take hR.ok h.s e) ?_ ?_
    ·intro _ _ _ H;go_wp2_with fail;exact⟨rfl,Ans.badh H⟩
    clear zt zr zn yr yn HT HA
    intro _ q6 w6 HT HA
    obtain⟨zt,zr,zn,-⟩:=HA.out.fs
    have yr:=HA.out.fw 1 rfl
    have yn:=HA.out.fw 2 rfl
    go_wp2_with fail
    refine HA.out.stepN HT HN (fun _ h e=>hR.h .assign _ _ _ h.s e) ?_ ?_
    ·intro _ _ _ H;go_wp2_with fail;exact⟨rfl,Ans.badh H⟩
    clear zt zr zn yr yn HT HA
    intro y ay cy q7 w7 HT HA
    obtain⟨zt,zr,zn,-⟩:=HA.out.fs
    have yr:=HA.out.fw 1 rfl
    have yn:=HA.out.fw 2 rfl
    replace HT:=ab4 HT
    go_wp2_with fail
    replace HA:=HA.out.pN (g:=w7.heap.size) rfl y ay cy
    refine HA.out.node 30 t.text n.from' [(n,an,cn),(y,ay,cy)] (by simp) rfl (by simp) rfl rfl HT ?_
    clear zt zr zn yr yn HT HA
    intro z az cz w8 _ HT HA
    obtain⟨zy,zt,zr,zn,-⟩:=HA.out.fs
    have yr:=HA.out.fw 2 rfl
    have yn:=HA.out.fw 3 rfl
    go_wp2_with fail
    exact HA.out.fin_nd 2 0 rfl rfl rfl rfl rfl HT.out.symm
  |false=>
   replace HT:=hneg HT (by rw [ha];decide)
   go_wp2_with fail
   exact HA.out.fin_nd 1 0 rfl rfl rfl rfl rfl HT.out.symm
end
section
open Go.RowKit
attribute [local go_sem] ab5 ab6 ab7 ab8 ab9 ac0
attribute [local go_sem ↓] Go.wp_at_zero Go.wp_at_succ
theorem Sa.setc2 {E:PE} {F0 X:Nat→Prop} {w0 w:World} {q:Ps} {bs:List Box} {ns:List Kd} {ro:Ro} (h:Sa E F0 X w0 w q bs ns ro) (i:Nat) {g:Nat} {v0 v1 v2 v3 v4:Value} {t:TypeId} (hb:nth bs i=some (g,true,.c5 v0 v1 v2 v3 v4 t)) (u:Value):
  Hid (Sa E F0 X w0 (w.setCell ⟨g,2,none⟩ u) q (ad3 bs i (g,true,.c5 v0 v1 u v3 v4 t)) ns ro):=by
 obtain⟨F,h⟩:=h
 have hbx:=h.bx _ (aa5 hb)
 have hF:F g:=hbx.1
 have hat:BxAt w g (.c5 v0 v1 v2 v3 v4 t):=hbx.2.1
 have hx:=hbx.2.2 rfl
 have hB: ∀k,k≠g→(w.setCell ⟨g,2,none⟩ u).heap[k]? =w.heap[k]? :=fun k hk=>Below.heap_setCell _ _ _ _ hk
 have ho:Only (fun k=>k=g) w (w.setCell ⟨g,2,none⟩ u):=Only.setCell (X:=fun k=>k=g) (Only.refl _ _) (p:=⟨g,2,none⟩) (.inl rfl) u
 have hm:Only (Mine F X w0) w (w.setCell ⟨g,2,none⟩ u):=ho.mono fun k hk=>by subst hk;exact⟨hF,hx⟩
 refine⟨F,h.s.only (hm.mono fun _ h=>h.1),h.p.adv h.s hm,h.le,h.f0,fun z hz=> ?_,ap2 h.nd hb,fun x hx=>(h.n x hx).only (hm.mono fun _ h=>h.1) h.s.lt h.s.notF,fun v l e=> ?_⟩
 ·rcases ai1 aj1 h.nd hb hz with rfl|⟨h1,h2⟩
  ·exact⟨hF,(heap_setCell_same w g 2 _ t u hat).trans (congrArg (fun c=>some (Obj.cells c t (0,0))) (by simp)),fun _=>hx⟩
  ·obtain⟨a1,a2,a3⟩:=h.bx z h1
   exact⟨a1,a2.same (hB _ fun e=>h2 e.symm),a3⟩
 ·obtain⟨base,a1,a2,a3,a4⟩:=h.r v l e
  refine⟨base,a1,Nat.le_trans a2 ho.size,a3.only h.s (ho.mono fun k hk=>by rw [show k=g from hk];exact⟨hF,a4 (g,true,.c5 v0 v1 v2 v3 v4 t) (aa5 hb)⟩),fun z hz=> ?_⟩
  rcases ai1 aj1 h.nd hb hz with rfl|⟨h1,h2⟩
  ·exact a4 (g,true,.c5 v0 v1 v2 v3 v4 t) (aa5 hb)
  ·exact a4 z h1
theorem Sa.rowdone {E:PE} {F0 X:Nat→Prop} {w0 w:World} {q:Ps} {bs:List Box} {ns:List Kd} {a:Option Addr} {c m:Nat} {l:List Kd} (h:Sa E F0 X w0 w q bs ns (some (.slice a m c,l))) {ks:List Nd} (hl:l.map (·.1)=ks) (n':Nd) (hk:n'.kids=ks):Hid (Sa E F0 X w0 w q bs ((n',a,c)::ns) none):=by
 obtain⟨F,h⟩:=h
 obtain⟨base,hb0,hb1,hko,hd⟩:=h.r _ _ rfl
 obtain⟨hsf,a',c',hv,h1,h2⟩:=hko.fin h.s
 injection hv with e1 e2 e3
 subst e1 e3
 refine⟨fun k=>F k∧(Value.slice a m c).ownBlock≠some k,hsf,h.p,fun k hk=>⟨h.le k hk,hko.ne (Nat.lt_of_lt_of_le (h.f0 k hk) hb0)⟩,h.f0,fun b hb=>⟨⟨(h.bx b hb).1,hd b hb⟩,(h.bx b hb).2⟩,h.nd,fun x hx=> ?_,fun _ _ e=>by cases e⟩
 have e:n'.kids=l.map (·.1):=hk.trans hl.symm
 rcases List.mem_cons.1 hx with rfl|hx
 ·exact⟨a,c,rfl,by rw [e];exact h1,by rw [e];exact h2⟩
 ·exact(h.n x hx).weak fun _ h=>h.1
def Pa1 (E:PE) (F:Nat→Prop) (w:World) (n:Nd) (a:Option Addr) (c:Nat) (p:Ps) (k:Nat) (u:Value) (wr:World):Prop:=
 ∃(i:Nat),u= .int .i64 (i:Int)∧i+k=n.kids.length+1∧i≤n.kids.length∧Hid (Sa E F X0 w wr p [(w.heap.size,true,.nd n a c),(w.heap.size+1,true,.z),(w.heap.size+1+1,true,.c5 (.int .i64 21) (.string ⟨#[]⟩) (.slice none 0 0) (.int .i64 n.from') (.int .i64 n.till) 28)] [(n,a,c)] none)
def Pa2 (E:PE) (R:(x:Fn)→PM x.Out) (F:Nat→Prop) (w:World) (n:Nd) (a:Option Addr) (c:Nat) (T:Res Nd) (k:Nat) (u:Value) (wr:World):Prop:=
 ∃(i:Nat) (q:Ps),u= .int .i64 (i:Int)∧i+k=n.kids.length+1∧i≤n.kids.length∧Hid ((am2.askL R (n.kids.drop i)>>=fun _=>am2.mapL n.kids>>=(fun ys=>(Pure.pure (Nd.mk 21 ⟨#[]⟩ ys n.from' n.till):PM Nd))) q=T)∧Hid (Sa E F X0 w wr q [(w.heap.size,true,.nd n a c),(w.heap.size+1,true,.z),(w.heap.size+1+1,true,.c5 (.int .i64 21) (.string ⟨#[]⟩) (.slice none 0 0) (.int .i64 n.from') (.int .i64 n.till) 28)] [(n,a,c)] none)
def Pa3 (E:PE) (F:Nat→Prop) (w:World) (n:Nd) (a:Option Addr) (c:Nat) (T:Res Nd) (k:Nat) (u:Value) (wr:World):Prop:=
 ∃(i:Nat) (q:Ps) (l:List Kd) (vk:Value),u= .int .i64 (i:Int)∧i+k=n.kids.length+1∧i≤n.kids.length∧l.length=i∧Hid ((am2.mapL (n.kids.drop i)>>=(fun ys=>(Pure.pure (Nd.mk 21 ⟨#[]⟩ (l.map (·.1)++ys) n.from' n.till):PM Nd))) q=T)∧Hid (Sa E F X0 w wr q [(w.heap.size,true,.nd n a c),(w.heap.size+1,true,.z),(w.heap.size+1+1,true,.c5 (.int .i64 21) (.string ⟨#[]⟩) vk (.int .i64 n.from') (.int .i64 n.till) 28)] [(n,a,c)] (some (vk,l)))
theorem bM6 {ks:List Nd} {i:Nat} {lb:Bool} (h:i<ks.length) (hl:(ks.drop (i+1)).isEmpty=lb):((i:Int)==(ks.length:Int) - 1)=lb:=by
 rw [←hl,Bool.eq_iff_iff,beq_iff_eq,List.isEmpty_iff,List.drop_eq_nil_iff]
 omega
theorem bS0 {n:Nd} (h:(n.kids.all (fun k=>okI k.from' && decide (k.kind≠18) && decide (k.kind≠30)) && okI n.till && decide (n.kids.length≤16777216))=true):(∀j,(hj:j<n.kids.length)→okI n.kids[j].from'=true∧n.kids[j].kind≠18∧n.kids[j].kind≠30)∧n.kids.length≤16777216:=by
 simp only [Bool.and_eq_true,List.all_eq_true,decide_eq_true_eq] at h
 exact⟨fun j hj=>by
  have:=h.1.1 _ (List.getElem_mem hj)
  exact⟨this.1.1,this.1.2,this.2⟩,h.2⟩
theorem S.params {E:PE} {R:(x:Fn)→PM x.Out} (hR:Env E R) {F:Nat→Prop} {w:World} {p:Ps} (n:Nd) (v:Value) (hn:IsP E F w n v) (h:St E F w p) (hne:am2 R n p≠ .out):
  Calls Tryz.prog 243 #[.pointer (some ⟨E.b,0,none⟩),v] w (Ans E F X0 w (am2 R n p) fun n v w'=>IsP E F w' n v):=by
 obtain⟨T,hT⟩: ∃T,am2 R n p=T:=⟨_,rfl⟩
 rw [hT] at hne⊢
 unfold am2 at hT
 have HT:=hJ hT
 have HN:=hJ hne
 obtain⟨an,cn,rfl,hn0⟩:=hn.form
 have HA:=Sa.start1 (X:=X0) h hn0
 clear h hne hT hn hn0
 cases hc:(n.kids.all (fun k=>okI k.from' && decide (k.kind≠18) && decide (k.kind≠30)) && okI n.till && decide (n.kids.length≤16777216)) with
 |true=>
  replace HT:=hpos HT (by rw [hc])
  obtain⟨hki,hlen⟩:=bS0 hc
  have HKI:=hJ hki
  clear hki hc
  go_enter Tryz.func243,Tryz.ntmps243
  go_upto_region 2 with fail
  replace HA:=HA.out.pN (g:=w.heap.size) rfl n an cn
  replace HA:=HA.out.pZ (g:=(w.heap.size+1)) (by simp)
  replace HA:=HA.out.p5 (g:=(w.heap.size+2)) (by simp) (.int .i64 21) (.string ⟨#[]⟩) (.slice none 0 0) (.int .i64 n.from') (.int .i64 n.till) 28
  generalize (((w.alloc (.cells #[.int .i64 n.kind,.string n.text,.slice an n.kids.length cn,.int .i64 n.from',.int .i64 n.till] 28)).alloc (.cells #[.int .i64 0,.string ⟨#[]⟩,.slice none 0 0,.int .i64 0,.int .i64 0] 28)).alloc (.cells #[.int .i64 21,.string ⟨#[]⟩,.slice none 0 0,.int .i64 n.from',.int .i64 n.till] 28))=w1 at*
  obtain⟨zo,zr,zn,-⟩:=HA.out.fs
  have yo:=HA.out.fw 0 rfl
  have yr:=HA.out.fw 1 rfl
  go_wp2_with fail
  clear zo zr zn yo yr
  go_loopg [23] (n.kids.length+1) (fun k u wr=>Pa1 E F w n an cn p k u wr)
  case atStart=>exact⟨0,rfl,by omega,Nat.zero_le _,HA.out.pick [2,1,0] [0] (by decide)⟩
  case round=>
   clear HA
   obtain⟨i,rfl,hik,hil,HA⟩:=hrel
   cases gk with
   |zero=>omega
   |succ k=>
    by_cases hlt:i<n.kids.length
    ·obtain⟨g0,off0,ax,cx,rfl,hg0,k0,k1,k2,k3,k4,hA⟩:=HA.out.kid 0 rfl hlt
     replace HA:=hA
     clear hA
     obtain⟨hko,hk18,hk30⟩:=HKI.out i hlt
     have HX:=hJ (show n.kids.drop i=n.kids[i]::n.kids.drop (i+1) from List.drop_eq_getElem_cons hlt)
     generalize n.kids[i]=x at*
     have hk18w:=kf hk18
     have hk30w:=kf hk30
     have HKO:=hJ hko
     clear hko hk18 hk30
     have hlt':(i:Int)<(n.kids.length:Int):=by omega
     have hnn:(0:Int)≤(i:Int):=by omega
     obtain⟨zn,zr,zo,-⟩:=HA.out.fs
     have yr:=HA.out.fw 1 rfl
     have yo:=HA.out.fw 2 rfl
     go_wp2_with fail
     replace HA:=HA.out.pN (g:=wr.heap.size) rfl x ax cx
     replace HA:=HA.out.drew
     obtain⟨mb,cv,hc14,hlk⟩:=HA.out.look_ HKO.out
     generalize hasC p.commas x.from'=cm at hlk
     have lE:=HA.out.lt
     cases cm
     all_goals
      go_region_with fail
     all_goals
      go_wp2_with fail
      go_roundg k
      case measure=>exact Nat.lt_succ_self k
      case rel=>exact⟨i+1,by go_num,by omega,by omega,HA.out.pick [1,2,3] [1] (by decide)⟩
    ·obtain rfl:i=n.kids.length:=by omega
     obtain⟨zn,zr,zo,-⟩:=HA.out.fs
     have yr:=HA.out.fw 1 rfl
     have yo:=HA.out.fw 2 rfl
     go_wp2_with fail
     clear zn zr zo yr yo
     go_loopg [61] (n.kids.length+1) (fun k u wr=>Pa2 E R F w n an cn T k u wr)
     case atStart=>exact⟨0,p,rfl,by omega,Nat.zero_le _,by rw [List.drop_zero];exact HT,HA.out.pick [0,1,2] [0] (by decide)⟩
     case round=>
      clear hik hil
      clear HA HT
      obtain⟨i,q,rfl,hik,hil,HT,HA⟩:=hrel
      cases gk with
      |zero=>omega
      |succ k=>
       by_cases hlt:i<n.kids.length
       ·obtain⟨g0,off0,ax,cx,rfl,hg0,k0,k1,k2,k3,k4,hA⟩:=HA.out.kid 0 rfl hlt
        replace HA:=hA
        clear hA
        obtain⟨hko,hk18,hk30⟩:=HKI.out i hlt
        have HX:=hJ (show n.kids.drop i=n.kids[i]::n.kids.drop (i+1) from List.drop_eq_getElem_cons hlt)
        generalize n.kids[i]=x at*
        have hk18w:=kf hk18
        have hk30w:=kf hk30
        have HKO:=hJ hko
        clear hko hk18 hk30
        have hlt':(i:Int)<(n.kids.length:Int):=by omega
        have hnn:(0:Int)≤(i:Int):=by omega
        rw [HX.out] at HT
        unfold am2.askL at HT
        replace HT:=aF3 HT
        obtain⟨lb,hlb⟩: ∃lb,(n.kids.drop (i+1)).isEmpty=lb:=⟨_,rfl⟩
        have hlbw:((i:Int)==(n.kids.length:Int) - 1)=lb:=bM6 hlt hlb
        rw [hlb] at HT
        clear hlb
        have hwr:IntKind.i64.wrap ((n.kids.length:Int) - 1)=(n.kids.length:Int) - 1:=by rw [IntKind.wrap_i64];omega
        obtain⟨zn,zr,zo,-⟩:=HA.out.fs
        have yr:=HA.out.fw 1 rfl
        have yo:=HA.out.fw 2 rfl
        go_wp2_with fail
        replace HA:=HA.out.pN (g:=wr.heap.size) rfl x ax cx
        refine HA.out.stepV HT HN (fun _ h e=>hR.h (.param x lb) _ _ _ _ (h.ni 0 rfl) h.s e) ?_ ?_
        ·intro _ _ _ H;go_wp2_with fail;exact⟨rfl,Ans.badh H⟩
        clear zn zr zo yr yo hg0 k0 k1 k2 k3 k4 HT HA
        intro _ q2 w2 HT HA
        obtain⟨zx,zn,zr,zo,-⟩:=HA.out.fs
        have yr:=HA.out.fw 2 rfl
        have yo:=HA.out.fw 3 rfl
        go_wp2_with fail
        go_roundg k
        case measure=>exact Nat.lt_succ_self k
        case rel=>exact⟨i+1,_,by go_num,by omega,by omega,HT,HA.out.pick [1,2,3] [1] (by decide)⟩
       ·obtain rfl:i=n.kids.length:=by omega
        rw [List.drop_length] at HT
        unfold am2.askL at HT
        replace HT:=aI4 HT
        obtain⟨zn,zr,zo,-⟩:=HA.out.fs
        have yr:=HA.out.fw 1 rfl
        have yo:=HA.out.fw 2 rfl
        go_wp2_with fail
        clear zn zr zo yr yo
        replace HA:=HA.out.row0
        go_loopg [79] (n.kids.length+1) (fun k u wr=>Pa3 E F w n an cn T k u wr)
        case atStart=>exact⟨0,q,[],.slice none 0 0,rfl,by omega,Nat.zero_le _,rfl,by rw [List.drop_zero];exact HT,HA.out.pick [0,1,2] [0] (by decide)⟩
        case round=>
         clear hik hil
         clear HA HT
         obtain⟨i,q,lk,vk,rfl,hik,hil,hli,HT,HA⟩:=hrel
         cases gk with
         |zero=>omega
         |succ k=>
          have hll:lk.length≤16777216:=by omega
          have HLI:=hJ hli
          clear hli
          obtain⟨sa,sc,rfl⟩:=HA.out.rowform
          by_cases hlt:i<n.kids.length
          ·obtain⟨g0,off0,ax,cx,rfl,hg0,k0,k1,k2,k3,k4,hA⟩:=HA.out.kid 0 rfl hlt
           replace HA:=hA
           clear hA
           obtain⟨hko,hk18,hk30⟩:=HKI.out i hlt
           have HX:=hJ (show n.kids.drop i=n.kids[i]::n.kids.drop (i+1) from List.drop_eq_getElem_cons hlt)
           generalize n.kids[i]=x at*
           have hk18w:=kf hk18
           have hk30w:=kf hk30
           have HKO:=hJ hko
           clear hko hk18 hk30
           have hlt':(i:Int)<(n.kids.length:Int):=by omega
           have hnn:(0:Int)≤(i:Int):=by omega
           rw [HX.out] at HT
           unfold am2.mapL at HT
           replace HT:=aF3 HT
           obtain⟨zn,zr,zo,-⟩:=HA.out.fs
           have yr:=HA.out.fw 1 rfl
           have yo:=HA.out.fw 2 rfl
           go_wp2_with fail
           replace HA:=HA.out.pN (g:=wr.heap.size) rfl x ax cx
           replace HA:=HA.out.pN (g:=(wr.heap.size+1)) (by simp) x ax cx
           refine HA.out.stepN HT HN (fun _ h e=>S.pattern x _ (h.ni 0 rfl) h.s e) ?_ ?_
           ·intro _ _ _ H;go_wp2_with fail;exact⟨rfl,Ans.badh H⟩
           clear zn zr zo yr yo hg0 k0 k1 k2 k3 k4 HT HA
           intro y ay cy q2 w2 HT HA
           obtain⟨zxb,zx,zn,zr,zo,-⟩:=HA.out.fs
           have yxb:=HA.out.fw 0 rfl
           have yr:=HA.out.fw 3 rfl
           have yo:=HA.out.fw 4 rfl
           replace HT:=aF3 HT
           go_upto_region 23 with fail
           replace HA:=HA.out.setN 0 0 rfl rfl rfl
           clear zxb zx zn zr zo yxb yr yo
           obtain⟨w3,e8,HA⟩:=HA
           rw [e8]
           clear e8
           dsimp only [ad3] at HA
           obtain⟨zxb,zx,zn,zr,zo,-⟩:=HA.out.fs
           have yxb:=HA.out.fw 0 rfl
           have yr:=HA.out.fw 3 rfl
           have yo:=HA.out.fw 4 rfl
           go_wp2_with (at_builtin;refine aM0 (by rfl) _ _ _ (by rfl) (by kernel_rfl) ao4 HA.out 0 rfl (by rfl) (g:=w3.heap.size) rfl (by rfl) rfl (by omega) ?_;clear zxb zx zn zr zo yxb yr yo HA;intro rr rc w4 HA;obtain⟨zxb,zx,zn,zr,zo,-⟩:=HA.out.fs;have yo:=HA.out.fw 4 rfl)
           replace HA:=HA.out.setc2 4 rfl (.slice rr (lk.length+1) rc)
           go_roundg k
           case measure=>exact Nat.lt_succ_self k
           case rel=>
            have he: ∀ys,((lk++ [(y,ay,cy)]).map (·.1)++ys)=(lk.map (·.1)++(y::ys)):=fun ys=>by simp
            refine⟨i+1,_,lk++ [(y,ay,cy)],_,by go_num,by omega,by omega,by simp [HLI.out],?_,HA.out.pick [2,3,4] [2] (by decide)⟩
            simp only [he]
            exact HT
          ·obtain rfl:i=n.kids.length:=by omega
           rw [List.drop_length] at HT
           unfold am2.mapL at HT
           replace HT:=aI4 HT
           rw [List.append_nil] at HT
           obtain⟨ks,hks⟩: ∃ks,lk.map (·.1)=ks:=⟨_,rfl⟩
           rw [hks] at HT
           have hlk:lk.length=ks.length:=by rw [←hks,List.length_map]
           replace HA:=HA.out.rowdone hks (Nd.mk 21 ⟨#[]⟩ ks n.from' n.till) rfl
           have HLK:=hJ hlk
           clear hlk hks
           obtain⟨zn,zr,zo,-⟩:=HA.out.fs
           have yr:=HA.out.fw 1 rfl
           have yo:=HA.out.fw 2 rfl
           go_wp2_with fail
           rw [HLK.out]
           exact HA.out.fin_nd (n:=Nd.mk 21 ⟨#[]⟩ ks n.from' n.till) (a:=sa) (c:=sc) 1 0 rfl rfl rfl rfl rfl HT.out.symm
 |false=>
  replace HT:=hneg HT (by rw [hc];decide)
  exact absurd HT.out.symm HN.out
end
end Go.Proofs.YtibpjkkgfgmkmaaGreatDoor
