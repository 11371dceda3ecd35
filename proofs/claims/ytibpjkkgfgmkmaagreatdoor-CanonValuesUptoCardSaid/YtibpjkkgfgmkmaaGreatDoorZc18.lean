/- Steps (Pv). Conditions: as stated. -/
import Derived.Test.YtibpjkkgfgmkmaaGreatDoorZc17
set_option maxHeartbeats 4000000
set_option maxRecDepth 100000
namespace Go.Proofs.YtibpjkkgfgmkmaaGreatDoor
section
open Go.RowKit
attribute [local go_sem] ab5 ab6 ab7 ab8 ab9 ac0
attribute [local go_sem ↓] Go.wp_at_zero Go.wp_at_succ
theorem S.arrowOf {E:PE} {R:(x:Fn)→PM x.Out} (hR:Env E R) {F:Nat→Prop} {w:World} {p:Ps} (t:Tk) (h:St E F w p) (hne:aw6 E.s R t p≠ .out):
  Calls Tryz.prog 50 #[.pointer (some ⟨E.b,0,none⟩),.agg #[.int .i64 t.kind,.string t.text,.int .i64 t.from',.int .i64 t.till,.bool t.line]] w (Ans E F X0 w (aw6 E.s R t p) fun n v w'=>IsP E F w' n v):=by
 obtain⟨T,hT⟩: ∃T,aw6 E.s R t p=T:=⟨_,rfl⟩
 rw [hT] at hne⊢
 unfold aw6 at hT
 have HT:=hJ hT
 have HN:=hJ hne
 have HA:=Sa.start0 (X:=X0) h
 clear h hne hT
 go_enter Tryz.func50,Tryz.ntmps50
 go_wp2_with fail
 replace HA:=HA.out.pT (g:=w.heap.size) rfl t
 replace HA:=HA.out.pZ (g:=(w.heap.size+1)) (by simp)
 refine HA.out.stepV HT HN (fun _ h e=>P.take hR.ok h.s e) ?_ ?_
 ·intro _ _ _ H;go_wp2_with fail;exact⟨rfl,Ans.badh H⟩
 clear HT HA
 intro _ q1 w1 HT HA
 obtain⟨zr,zt,-⟩:=HA.out.fs
 have yr:=HA.out.fw 0 rfl
 go_wp2_with fail
 refine HA.out.stepV HT HN (fun _ h e=>P.peek hR.ok 1 h.s e) ?_ ?_
 ·intro _ _ _ H;go_wp2_with fail;exact⟨rfl,Ans.badh H⟩
 clear zr zt yr HT HA
 intro id q2 w2 HT HA
 obtain⟨zr,zt,-⟩:=HA.out.fs
 have yr:=HA.out.fw 0 rfl
 go_wp2_with fail
 replace HA:=HA.out.pT (g:=w2.heap.size) rfl id
 refine HA.out.stepQ (fun _ h=>P.punct id ⟨#[61,62]⟩ _) ?_
 clear zr zt yr HA
 intro w3 HA
 obtain⟨zid,zr,zt,-⟩:=HA.out.fs
 have yr:=HA.out.fw 1 rfl
 cases hc:punctT id ⟨#[61,62]⟩ with
 |true=>
  replace HT:=hpos HT (by rw [hc])
  go_wp2_with fail
  obtain⟨n,hqn⟩: ∃n,ah2 1 t=n:=⟨_,rfl⟩
  rw [hqn] at HT
  have HQn:=hJ hqn
  clear hqn
  replace HT:=bi0 HT
  generalize hqps:Nd.mk 21 ⟨#[]⟩ [n] t.from' q2.at'=ps at HT
  have HQps:=hJ hqps
  clear hqps
  replace HT:=ab4 HT
  rcases an6 HT HN with ⟨m,r44,HX,hk⟩|⟨c,i,HX,hk⟩
  ·replace HT:=hk;clear hk
   replace HA:=HA.out.drew
   go_region_with (first|(go_at_call 82;refine HA.out.gotleaf 1 t HQn ?_;clear zid zr zt yr HA;intro an cn w4 HA;obtain⟨zid,zr,zt,-⟩:=HA.out.fs;have yr:=HA.out.fw 1 rfl)|(go_at_call 29;refine HA.out.gotnode 21 ⟨#[]⟩ t.from' [(n,an,cn)] (by simp) rfl rfl rfl HQps ?_;clear zid zr zt yr HA;intro aps cps w5 HA;obtain⟨zid,zr,zt,-⟩:=HA.out.fs;have yr:=HA.out.fw 1 rfl)|(go_at_call 83;refine HA.out.gotN HX (fun _ h e=>hR.h (.body ⟨#[]⟩ t.from' ps) _ _ _ _ (h.ni 0 rfl) h.s e) ?_;clear zid zr zt yr HA;intro am cm w6 HA;obtain⟨zid,zr,zt,-⟩:=HA.out.fs;have yr:=HA.out.fw 1 rfl))
   all_goals
    go_wp2_with fail
    exact HA.out.fin_nd 1 0 rfl rfl rfl rfl rfl HT.out.symm
  ·replace HT:=hk;clear hk
   replace HA:=HA.out.drew
   go_region_with (first|(go_at_call 82;refine HA.out.gotleaf 1 t HQn ?_;clear zid zr zt yr HA;intro an cn w4 HA;obtain⟨zid,zr,zt,-⟩:=HA.out.fs;have yr:=HA.out.fw 1 rfl)|(go_at_call 29;refine HA.out.gotnode 21 ⟨#[]⟩ t.from' [(n,an,cn)] (by simp) rfl rfl rfl HQps ?_;clear zid zr zt yr HA;intro aps cps w5 HA;obtain⟨zid,zr,zt,-⟩:=HA.out.fs;have yr:=HA.out.fw 1 rfl)|(go_at_call 83;refine HA.out.gotbad (.agg #[.int .i64 0,.string ⟨#[]⟩,.slice none 0 0,.int .i64 0,.int .i64 0]) HX HT (fun _ h e=>hR.h (.body ⟨#[]⟩ t.from' ps) _ _ _ _ (h.ni 0 rfl) h.s e) (fun _ H=>by (go_wp2_with fail);exact⟨rfl,Ans.badh H⟩) ?_;intro HF))
   all_goals
    exact HF.out.elim
 |false=>
  replace HT:=hneg HT (by rw [hc];decide)
  go_wp2_with fail
  refine HA.out.stepV HT HN (fun _ h e=>P.take hR.ok h.s e) ?_ ?_
  ·intro _ _ _ H;go_wp2_with fail;exact⟨rfl,Ans.badh H⟩
  clear zid zr zt yr HT HA
  intro _ q4 w4 HT HA
  obtain⟨zid,zr,zt,-⟩:=HA.out.fs
  have yr:=HA.out.fw 1 rfl
  go_wp2_with fail
  obtain⟨n,hqn⟩: ∃n,ah2 1 id=n:=⟨_,rfl⟩
  rw [hqn] at HT
  have HQn:=hJ hqn
  clear hqn
  replace HT:=bi0 HT
  generalize hqps:Nd.mk 21 ⟨#[]⟩ [n] id.from' q4.at'=ps at HT
  have HQps:=hJ hqps
  clear hqps
  replace HT:=ab4 HT
  rcases an6 HT HN with ⟨m,r75,HX,hk⟩|⟨c,i,HX,hk⟩
  ·replace HT:=hk;clear hk
   replace HA:=HA.out.drew
   go_region_with (first|(go_at_call 82;refine HA.out.gotleaf 1 id HQn ?_;clear zid zr zt yr HA;intro an cn w5 HA;obtain⟨zid,zr,zt,-⟩:=HA.out.fs;have yr:=HA.out.fw 1 rfl)|(go_at_call 29;refine HA.out.gotnode 21 ⟨#[]⟩ id.from' [(n,an,cn)] (by simp) rfl rfl rfl HQps ?_;clear zid zr zt yr HA;intro aps cps w6 HA;obtain⟨zid,zr,zt,-⟩:=HA.out.fs;have yr:=HA.out.fw 1 rfl)|(go_at_call 83;refine HA.out.gotN HX (fun _ h e=>hR.h (.body ⟨#[97,115,121,110,99]⟩ t.from' ps) _ _ _ _ (h.ni 0 rfl) h.s e) ?_;clear zid zr zt yr HA;intro am cm w7 HA;obtain⟨zid,zr,zt,-⟩:=HA.out.fs;have yr:=HA.out.fw 1 rfl))
   all_goals
    go_wp2_with fail
    exact HA.out.fin_nd 1 0 rfl rfl rfl rfl rfl HT.out.symm
  ·replace HT:=hk;clear hk
   replace HA:=HA.out.drew
   go_region_with (first|(go_at_call 82;refine HA.out.gotleaf 1 id HQn ?_;clear zid zr zt yr HA;intro an cn w5 HA;obtain⟨zid,zr,zt,-⟩:=HA.out.fs;have yr:=HA.out.fw 1 rfl)|(go_at_call 29;refine HA.out.gotnode 21 ⟨#[]⟩ id.from' [(n,an,cn)] (by simp) rfl rfl rfl HQps ?_;clear zid zr zt yr HA;intro aps cps w6 HA;obtain⟨zid,zr,zt,-⟩:=HA.out.fs;have yr:=HA.out.fw 1 rfl)|(go_at_call 83;refine HA.out.gotbad (.agg #[.int .i64 0,.string ⟨#[]⟩,.slice none 0 0,.int .i64 0,.int .i64 0]) HX HT (fun _ h e=>hR.h (.body ⟨#[97,115,121,110,99]⟩ t.from' ps) _ _ _ _ (h.ni 0 rfl) h.s e) (fun _ H=>by (go_wp2_with fail);exact⟨rfl,Ans.badh H⟩) ?_;intro HF))
   all_goals
    exact HF.out.elim
end
end Go.Proofs.YtibpjkkgfgmkmaaGreatDoor
