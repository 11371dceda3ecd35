/- Steps (Wa Wb Wc Wd2 We). Conditions: as stated. -/
import Derived.Test.YtokfgpjclmdllaaGreatDoorPn11
import Derived.Test.YtokfgpjclmdllaaGreatDoorPn26
import Derived.Test.YtokfgpjclmdllaaGreatDoorPn45
import Derived.Test.YtokfgpjclmdllaaGreatDoorPn30
set_option maxHeartbeats 1000000
set_option maxRecDepth 100000
namespace Go.Proofs.YtokfgpjclmdllaaGreatDoor
section
open Go.RowKit
attribute [local go_sem] aa8
theorem P.peek4 {E:PE} (hE:E.Ok) {F:Nat→Prop} {w:World} {p:Ps} (h:St E F w p) (hne:ab4 E.s 4 p≠ .out):
  Calls Tryz.prog 23 #[.pointer (some ⟨E.b,0,none⟩),.int .i64 4] w (Ans E F X0 w (ab4 E.s 4 p) fun t v _=>v= .agg #[.int .i64 t.kind,.string t.text,.int .i64 t.from',.int .i64 t.till,.bool t.line]):=
 P.peekN hE 4 h hne fun z W hz hb=>by
  have hx:=(hE.lx.bel h.bel).bel hb
  exact bG9 E.s z W hE.hs hz hx.tabs hx.max hx.spc
theorem P.peek5 {E:PE} (hE:E.Ok) {F:Nat→Prop} {w:World} {p:Ps} (h:St E F w p) (hne:ab4 E.s 5 p≠ .out):
  Calls Tryz.prog 23 #[.pointer (some ⟨E.b,0,none⟩),.int .i64 5] w (Ans E F X0 w (ab4 E.s 5 p) fun t v _=>v= .agg #[.int .i64 t.kind,.string t.text,.int .i64 t.from',.int .i64 t.till,.bool t.line]):=
 P.peekN hE 5 h hne fun z W hz hb=>by
  have hx:=(hE.lx.bel h.bel).bel hb
  exact bH0 E.s z W hE.hs hz hx.tabs hx.max hx.spc
theorem P.tag {E:PE} (hE:E.Ok) {F:Nat→Prop} {w:World} {p:Ps} (x:ByteArray) (h:St E F w p) (hne:ay1 E.s x p≠ .out):
  Calls Tryz.prog 259 #[.pointer (some ⟨E.b,0,none⟩),.string x] w (Ans E F X0 w (ay1 E.s x p) fun b v _=>v= .bool b):=by
 obtain⟨T,hT⟩: ∃T,ay1 E.s x p=T:=⟨_,rfl⟩
 rw [hT] at hne⊢
 unfold ay1 at hT
 have HT:=hJ hT
 have HN:=hJ hne
 have HS:=hJ h
 have HP:=hJ (PB.refl E.b X0 w)
 have HE:=hJ hE
 clear h hne hT hE
 go_enter Tryz.func259,Tryz.ntmps259
 go_wp2_with fail
 refine(P.peek5 HE.out HS.out (PM.ne HT.out HN.out)).mono ?_
 intro e w1 h1
 rcases PM.cases HT.out HN.out with ⟨t,q1,hx,hk⟩|⟨c,i,hx,hk⟩
 rotate_left
 ·rw [hx] at h1
  obtain⟨rfl,hp1⟩:=h1
  replace HT:=hJ hk
  clear hx hk
  go_wp2_with fail
  exact⟨rfl,Ans.bad HT.out (HP.out.then hp1)⟩
 rw [hx] at h1
 obtain⟨v,rfl,rfl,hs1,hp1⟩:=h1
 replace HS:=hJ hs1
 replace HP:=hJ (HP.out.then hp1)
 replace HT:=hJ hk
 clear hs1 hp1 hx hk
 go_wp2_with fail
 refine(P.punct t x _).mono ?_
 rintro e w2 ⟨rfl,hb⟩
 replace HP:=hJ (HP.out.adv HS.out (Only.below (Only.refl _ _) hb))
 replace HS:=hJ (HS.out.adv (X:=X0) (w:=w) (Only.below (Only.refl _ _) hb))
 clear hb
 cases hc:punctT t x with
 |true=>
  have hk:=HT.out
  rw [hc,if_pos rfl] at hk
  replace HT:=hJ hk
  clear hk
  go_wp2_with fail
  refine(P.take HE.out HS.out (PM.ne HT.out HN.out)).mono ?_
  intro e w3 h1
  rcases PM.cases HT.out HN.out with ⟨_,q3,hx,hk⟩|⟨c,i,hx,hk⟩
  rotate_left
  ·rw [hx] at h1
   obtain⟨rfl,hp1⟩:=h1
   replace HT:=hJ hk
   clear hx hk
   go_wp2_with fail
   exact⟨rfl,Ans.bad HT.out (HP.out.then hp1)⟩
  rw [hx] at h1
  obtain⟨v,rfl,rfl,hs1,hp1⟩:=h1
  replace HS:=hJ hs1
  replace HP:=hJ (HP.out.then hp1)
  replace HT:=hJ hk
  clear hs1 hp1 hx hk
  go_wp2_with fail
  go_ret
  exact Ans.ok HT.out.symm rfl HS.out HP.out
 |false=>
  have hk:=HT.out
  rw [hc,if_neg (by decide)] at hk
  replace HT:=hJ hk
  clear hk
  go_wp2_with fail
  go_ret
  exact Ans.ok HT.out.symm rfl HS.out HP.out
theorem P.wantTag {E:PE} (hE:E.Ok) {F:Nat→Prop} {w:World} {p:Ps} (x:ByteArray) (h:St E F w p) (hne:ah3 E.s x p≠ .out):
  Calls Tryz.prog 263 #[.pointer (some ⟨E.b,0,none⟩),.string x] w (Ans E F X0 w (ah3 E.s x p) fun t v _=>v= .agg #[.int .i64 t.kind,.string t.text,.int .i64 t.from',.int .i64 t.till,.bool t.line]):=by
 obtain⟨T,hT⟩: ∃T,ah3 E.s x p=T:=⟨_,rfl⟩
 rw [hT] at hne⊢
 unfold ah3 at hT
 have HT:=hJ hT
 have HN:=hJ hne
 have HS:=hJ h
 have HP:=hJ (PB.refl E.b X0 w)
 have HE:=hJ hE
 clear h hne hT hE
 go_enter Tryz.func263,Tryz.ntmps263
 go_wp2_with fail
 refine aw4 HS.out HP.out (Only.alloc (Only.refl _ _) _) ?_
 intro F1 hF1 hnew hn1 hs1 hp1
 replace HS:=hJ hs1
 replace HP:=hJ hp1
 have hmr:F1 (w.heap.size):=hnew _ (by simp) (by simp)
 have HBr:=hJ (ao4 w)
 clear hnew hs1 hp1
 refine(P.peek5 HE.out HS.out (PM.ne HT.out HN.out)).mono ?_
 intro e w1 h1
 rcases PM.cases HT.out HN.out with ⟨t,q1,hx,hk⟩|⟨c,i,hx,hk⟩
 rotate_left
 ·rw [hx] at h1
  obtain⟨rfl,hp1⟩:=h1
  replace HT:=hJ hk
  clear hx hk
  go_wp2_with fail
  exact⟨rfl,Ans.bad HT.out (HP.out.then hp1)⟩
 rw [hx] at h1
 obtain⟨v,rfl,rfl,hs1,hp1⟩:=h1
 replace HBr:=hJ (HBr.out.same (HS.out.box hp1 hmr))
 replace HS:=hJ hs1
 replace HP:=hJ (HP.out.then hp1)
 replace HT:=hJ hk
 clear hs1 hp1 hx hk
 go_wp2_with fail
 refine(P.punct t x _).mono ?_
 rintro e w2 ⟨rfl,hb⟩
 replace HBr:=hJ (HBr.out.same (hb.block _ (HS.out.fo _ hmr).2.1))
 replace HP:=hJ (HP.out.adv HS.out (Only.below (Only.refl _ _) hb))
 replace HS:=hJ (HS.out.adv (X:=X0) (w:=w) (Only.below (Only.refl _ _) hb))
 clear hb
 cases hc:punctT t x with
 |true=>
  have hk:=HT.out
  rw [hc,if_pos rfl] at hk
  replace HT:=hJ hk
  clear hk
  go_wp2_with fail
  replace HT:=hJ (PM.tail HT.out)
  refine(P.take HE.out HS.out (PM.ne HT.out HN.out)).mono ?_
  intro e w3 h1
  rcases PM.cases HT.out HN.out with ⟨u,q3,hx,hk⟩|⟨c,i,hx,hk⟩
  rotate_left
  ·rw [hx] at h1
   obtain⟨rfl,hp1⟩:=h1
   replace HT:=hJ hk
   clear hx hk
   go_wp2_with fail
   exact⟨rfl,Ans.bad HT.out (HP.out.then hp1)⟩
  rw [hx] at h1
  obtain⟨v,rfl,rfl,hs1,hp1⟩:=h1
  replace HBr:=hJ (HBr.out.same (HS.out.box hp1 hmr))
  replace HS:=hJ hs1
  replace HP:=hJ (HP.out.then hp1)
  replace HT:=hJ hk
  clear hs1 hp1 hx hk
  obtain⟨zr0,zr1,zr2,zr3,zr4,yr0,yr1,yr2,yr3,yr4⟩:=HBr.out.fs
  go_wp2_with fail
  exact bi0 rfl rfl HBr.out HS.out hF1 hmr (Nat.le_refl _) HP.out HT.out.symm
 |false=>
  have hk:=HT.out
  rw [hc,if_neg (by decide)] at hk
  replace HT:=hJ hk
  clear hk
  go_wp2_with fail
  refine(P.odd HS.out).mono ?_
  rintro e w9 ⟨rfl,rfl⟩
  go_wp2_with fail
  exact⟨rfl,Ans.bad HT.out.symm HP.out⟩
theorem P.part {E:PE} (hE:E.Ok) {F:Nat→Prop} {w:World} {p:Ps} (h:St E F w p) (hne:aU0 E.s p≠ .out):
  Calls Tryz.prog 273 #[.pointer (some ⟨E.b,0,none⟩)] w (Ans E F X0 w (aU0 E.s p) fun t v _=>v= .agg #[.int .i64 t.kind,.string t.text,.int .i64 t.from',.int .i64 t.till,.bool t.line]):=by
 obtain⟨T,hT⟩: ∃T,aU0 E.s p=T:=⟨_,rfl⟩
 rw [hT] at hne⊢
 unfold aU0 at hT
 have HT:=hJ hT
 have HN:=hJ hne
 have HS:=hJ h
 have HP:=hJ (PB.refl E.b X0 w)
 have HE:=hJ hE
 clear h hne hT hE
 go_enter Tryz.func273,Tryz.ntmps273
 go_wp2_with fail
 refine aw4 HS.out HP.out (Only.alloc (Only.refl _ _) _) ?_
 intro F1 hF1 hnew hn1 hs1 hp1
 replace HS:=hJ hs1
 replace HP:=hJ hp1
 have hmr:F1 (w.heap.size):=hnew _ (by simp) (by simp)
 have HBr:=hJ (ao4 w)
 clear hnew hs1 hp1
 refine(P.peek5 HE.out HS.out (PM.ne HT.out HN.out)).mono ?_
 intro e w1 h1
 rcases PM.cases HT.out HN.out with ⟨t,q1,hx,hk⟩|⟨c,i,hx,hk⟩
 rotate_left
 ·rw [hx] at h1
  obtain⟨rfl,hp1⟩:=h1
  replace HT:=hJ hk
  clear hx hk
  go_wp2_with fail
  exact⟨rfl,Ans.bad HT.out (HP.out.then hp1)⟩
 rw [hx] at h1
 obtain⟨v,rfl,rfl,hs1,hp1⟩:=h1
 replace HBr:=hJ (HBr.out.same (HS.out.box hp1 hmr))
 replace HS:=hJ hs1
 replace HP:=hJ (HP.out.then hp1)
 replace HT:=hJ hk
 clear hs1 hp1 hx hk
 by_cases hc:t.kind=1
 ·have hk:=HT.out
  rw [if_pos hc] at hk
  have k1:(t.kind==1)=true:=by rw [beq_iff_eq];exact hc
  clear hc
  replace HT:=hJ hk
  clear hk
  go_wp2_with fail
  replace HT:=hJ (PM.tail HT.out)
  refine(P.take HE.out HS.out (PM.ne HT.out HN.out)).mono ?_
  intro e w3 h1
  rcases PM.cases HT.out HN.out with ⟨u,q3,hx,hk⟩|⟨c,i,hx,hk⟩
  rotate_left
  ·rw [hx] at h1
   obtain⟨rfl,hp1⟩:=h1
   replace HT:=hJ hk
   clear hx hk
   go_wp2_with fail
   exact⟨rfl,Ans.bad HT.out (HP.out.then hp1)⟩
  rw [hx] at h1
  obtain⟨v,rfl,rfl,hs1,hp1⟩:=h1
  replace HBr:=hJ (HBr.out.same (HS.out.box hp1 hmr))
  replace HS:=hJ hs1
  replace HP:=hJ (HP.out.then hp1)
  replace HT:=hJ hk
  clear hs1 hp1 hx hk
  obtain⟨zr0,zr1,zr2,zr3,zr4,yr0,yr1,yr2,yr3,yr4⟩:=HBr.out.fs
  go_wp2_with fail
  exact bi0 rfl rfl HBr.out HS.out hF1 hmr (Nat.le_refl _) HP.out HT.out.symm
 ·have hk:=HT.out
  rw [if_neg hc] at hk
  have k1:(t.kind==1)=false:=by rw [beq_eq_false_iff_ne];exact hc
  clear hc
  replace HT:=hJ hk
  clear hk
  go_wp2_with fail
  refine(P.odd HS.out).mono ?_
  rintro e w9 ⟨rfl,rfl⟩
  go_wp2_with fail
  exact⟨rfl,Ans.bad HT.out.symm HP.out⟩
end
section
open Go.RowKit
attribute [local go_sem] aa8 aa9 ab0 ab1 ab2 ab3
attribute [local go_sem ↓] Go.wp_at_zero Go.wp_at_succ
theorem by6 (v0 v1 v2 v3 v4:Value) (W:World):(Instr.field 26 (.agg #[v0,v1,v2,v3,v4]) 1).run Tryz.prog W= .ok v1 W:=by kernel_rfl
attribute [local go_sem] by6
theorem S.closingX {E:PE} {R:(x:Fn)→PM x.Out} (hR:Env E R) {F:Nat→Prop} {w:World} {p:Ps} (of:ByteArray) (from':Int) (h:St E F w p) (hne:al9 E.s R of from' p≠ .out):
  Calls Tryz.prog 271 #[.pointer (some ⟨E.b,0,none⟩),.string of,.int .i64 from'] w (Ans E F X0 w (al9 E.s R of from' p) fun _ v _=>v= .tuple #[]):=by
 obtain⟨T,hT⟩: ∃T,al9 E.s R of from' p=T:=⟨_,rfl⟩
 rw [hT] at hne⊢
 unfold al9 at hT
 have HT:=hJ hT
 have HN:=hJ hne
 have HA:=Sa.start0 (X:=X0) h
 clear h hne hT
 go_enter Tryz.func271,Tryz.ntmps271
 go_wp2_with fail
 refine HA.out.stepV HT HN (fun _ h e=>P.peek5 hR.ok h.s e) ?_ ?_
 ·intro _ _ _ H;go_wp2_with fail;exact⟨rfl,Ans.badh H⟩
 clear HT HA
 intro t q1 w1 HT HA
 by_cases hk1:t.kind=1
 ·have hk1w:=kt hk1
  replace HT:=hpos HT (by exact hk1)
  have hk1':=hJ hk1
  clear hk1
  go_wp2_with fail
  refine HA.out.stepN HT HN (fun _ h e=>hR.h (.jname true) _ _ _ h.s e) ?_ ?_
  ·intro _ _ _ H;go_wp2_with fail;exact⟨rfl,Ans.badh H⟩
  clear HT HA
  intro n an cn q2 w2 HT HA
  by_cases hx:n.text=of
  ·have hxw:(n.text.toList==of.toList)=true:=by rw [hx];simp
   replace HT:=hpos HT (by exact hx)
   have hx':=hJ hx
   clear hx
   go_wp2_with fail
   refine HA.out.stepV HT HN (fun _ h e=>P.wantTag hR.ok ⟨#[62]⟩ h.s e) ?_ ?_
   ·intro _ _ _ H;go_wp2_with fail;exact⟨rfl,Ans.badh H⟩
   clear HT HA
   intro _ q3 w3 HT HA
   go_wp2_with fail
   exact HA.out.fin_u rfl HT.out.symm rfl
  ·have hxw:(n.text.toList==of.toList)=false:=aY5 hx
   replace HT:=hneg HT (by exact hx)
   have hx':=hJ hx
   clear hx
   go_wp2_with fail
   refine(P.fail _ _ _ _).mono ?_
   rintro e w9 ⟨rfl,rfl⟩
   have H:=HA.out.bad HT.out.symm
   go_wp2_with fail
   exact⟨rfl,Ans.badh H⟩
 ·have hk1w:=kf hk1
  replace HT:=hneg HT (by exact hk1)
  have hk1':=hJ hk1
  clear hk1
  by_cases hx:(⟨#[]⟩:ByteArray)=of
  ·subst hx
   replace HT:=hpos HT (by rfl)
   go_wp2_with fail
   refine HA.out.stepV HT HN (fun _ h e=>P.wantTag hR.ok ⟨#[62]⟩ h.s e) ?_ ?_
   ·intro _ _ _ H;go_wp2_with fail;exact⟨rfl,Ans.badh H⟩
   clear HT HA
   intro _ q2 w2 HT HA
   go_wp2_with fail
   exact HA.out.fin_u rfl HT.out.symm rfl
  ·have hxw:((⟨#[]⟩:ByteArray).toList==of.toList)=false:=aY5 hx
   have hxe:of.toList.isEmpty=false:=by
    cases he:of.toList with
    |nil=>rw [he,bt] at hxw;exact absurd hxw (by decide)
    |cons _ _=>rfl
   clear hxw
   replace HT:=hneg HT (by exact hx)
   have hx':=hJ hx
   clear hx
   go_wp2_with fail
   refine(P.fail _ _ _ _).mono ?_
   rintro e w9 ⟨rfl,rfl⟩
   have H:=HA.out.bad HT.out.symm
   go_wp2_with fail
   exact⟨rfl,Ans.badh H⟩
end
section
open Go.RowKit
attribute [local go_sem] aa8 aa9 ab0 ab1 ab2 ab3
attribute [local go_sem ↓] Go.wp_at_zero Go.wp_at_succ
theorem C.element1 {E:PE} {R:(x:Fn)→PM x.Out} (hR:Env E R) (t:Tk) {pb tb nb:Nat} :
  CloS E (fun j=>j=nb) [(pb,false,.p E.b),(tb,false,.tk t),(nb,true,.nb)] (InB E nb) (do
  let _←ad9
  R (.markup t.from')) 248 #[.pointer (some ⟨pb,0,none⟩),.pointer (some ⟨tb,0,none⟩),.pointer (some ⟨nb,0,none⟩)]:=by
 intro F w p h hB hd hne
 obtain⟨T,hT⟩: ∃T,(do
   let _←ad9
   R (.markup t.from')) p=T:=⟨_,rfl⟩
 rw [hT] at hne⊢
 have HT:=hJ hT
 have HN:=hJ hne
 have HA:=Sa.start (X:=(fun j=>j=nb)) h [] _ (fun _ h=>by cases h) hB (by simp) hd
 clear h hne hT hB hd
 obtain⟨zpb,ztb,znb,-⟩:=HA.out.fs
 have ynb:=HA.out.fw 2 rfl
 go_enter Tryz.func248,Tryz.ntmps248
 go_wp2_with fail
 refine HA.out.stepV HT HN (fun _ h e=>P.take hR.ok h.s e) ?_ ?_
 ·intro _ _ _ H;go_wp2_with fail;exact⟨rfl,Ans.badh H⟩
 clear zpb ztb znb ynb HT HA
 intro _ q1 w1 HT HA
 obtain⟨zpb,ztb,znb,-⟩:=HA.out.fs
 have ynb:=HA.out.fw 2 rfl
 go_wp2_with fail
 replace HT:=ab5 HT
 refine HA.out.stepN HT HN (fun _ h e=>hR.h (.markup t.from') _ _ _ h.s e) ?_ ?_
 ·intro _ _ _ H;go_wp2_with fail;exact⟨rfl,Ans.badh H⟩
 clear zpb ztb znb ynb HT HA
 intro n an cn q2 w2 HT HA
 obtain⟨zpb,ztb,znb,-⟩:=HA.out.fs
 have ynb:=HA.out.fw 2 rfl
 go_wp2_with fail
 exact HA.out.fin_cl 2 0 rfl rfl rfl rfl HT.out.symm
theorem S.element1 {E:PE} {R:(x:Fn)→PM x.Out} (hR:Env E R) {F:Nat→Prop} {w:World} {p:Ps} (h:St E F w p) (hne:an2 R p≠ .out):
  Calls Tryz.prog 222 #[.pointer (some ⟨E.b,0,none⟩)] w (Ans E F X0 w (an2 R p) fun n v w'=>IsP E F w' n v):=by
 obtain⟨T,hT⟩: ∃T,an2 R p=T:=⟨_,rfl⟩
 rw [hT] at hne⊢
 unfold an2 at hT
 have HT:=hJ hT
 have HN:=hJ hne
 have HA:=Sa.start0 (X:=X0) h
 clear h hne hT
 replace HT:=hget HT
 obtain⟨t,ht⟩: ∃t,p.tok=t:=⟨_,rfl⟩
 have c2:=HA.out.c_kind
 have c3:=HA.out.c_text
 have c4:=HA.out.c_from
 have c5:=HA.out.c_till
 have c6:=HA.out.c_line
 rw [ht] at c2 c3 c4 c5 c6 HT
 have lE:=HA.out.lt
 clear ht
 go_enter Tryz.func222,Tryz.ntmps222
 go_wp2_with fail
 replace HT:=ab5 HT
 replace HA:=HA.out.pP (g:=w.heap.size) rfl
 replace HA:=HA.out.pZ (g:=(w.heap.size+1)) (by simp)
 replace HA:=HA.out.pT (g:=(w.heap.size+2)) (by simp) t
 refine HA.out.deeper hR.ok t.from' HT HN (fun _=>by kernel_rfl) (C.element1 hR t) (.tail _ (.tail _ (.head _))) [2,0,1] ⟨⟨_,_,rfl,.inl rfl⟩,⟨_,_,rfl,.inl rfl⟩,⟨_,_,rfl,.inr ⟨rfl,_,_,_,_,_,_,_,rfl⟩⟩,trivial⟩ (by decide) 1 rfl ?_ ?_
 ·intro _ _ _ H;go_wp2_with fail;exact⟨rfl,Ans.badh H⟩
 clear HT HA
 intro n an cn q1 w1 HT HA
 dsimp only [ac9] at HA
 obtain⟨zt,zr,zpb,-⟩:=HA.out.fs
 have yr:=HA.out.fw 1 rfl
 go_wp2_with fail
 exact HA.out.fin_nd 1 0 rfl rfl rfl rfl rfl HT.out.symm
end
section
open Go.RowKit
attribute [local go_sem] aa8 aa9 ab0 ab1 ab2 ab3
attribute [local go_sem ↓] Go.wp_at_zero Go.wp_at_succ
theorem aR9 (x:ByteArray) (hx:x=⟨#[97]⟩∨x=⟨#[98]⟩) (w:World):Calls Tryz.prog 274 #[.string x,.string ⟨#[45]⟩] w fun e w'=>e= .returned (.bool false)∧Below w.heap.size w w':=by
 have hi:Lib.indexByte x.data.toList 45= -1:=by rcases hx with rfl|rfl<;>rfl
 have HC:=hJ (Tryz.strings_Index_one x 45 w)
 rw [hi] at HC
 clear hi hx
 go_enter Tryz.func274,Tryz.ntmps274
 go_wp2_with (go_at_call 277;refine HC.out.mono ?_;rintro e w1 ⟨rfl,rfl⟩)
 go_ret
 exact⟨rfl,Below.refl _ _⟩
theorem S.jnameX {E:PE} {R:(x:Fn)→PM x.Out} (hR:Env E R) {F:Nat→Prop} {w:World} {p:Ps} (points:Bool) (h:St E F w p) (hne:aD6 E.s points p≠ .out):
  Calls Tryz.prog 261 #[.pointer (some ⟨E.b,0,none⟩),.bool points] w (Ans E F X0 w (aD6 E.s points p) fun n v w'=>IsP E F w' n v):=by
 obtain⟨T,hT⟩: ∃T,aD6 E.s points p=T:=⟨_,rfl⟩
 rw [hT] at hne⊢
 unfold aD6 at hT
 have HT:=hJ hT
 have HN:=hJ hne
 have HA:=Sa.start0 (X:=X0) h
 clear h hne hT
 go_enter Tryz.func261,Tryz.ntmps261
 go_wp2_with fail
 replace HA:=HA.out.pZ (g:=w.heap.size) rfl
 refine HA.out.stepV HT HN (fun _ h e=>P.part hR.ok h.s e) ?_ ?_
 ·intro _ _ _ H;go_wp2_with fail;exact⟨rfl,Ans.badh H⟩
 clear HT HA
 intro t q1 w1 HT HA
 obtain⟨zr,-⟩:=HA.out.fs
 have yr:=HA.out.fw 0 rfl
 by_cases hx:points=false∨¬(t.text=⟨#[97]⟩∨t.text=⟨#[98]⟩)
 ·rw [if_pos hx] at HT
  exact absurd HT.out.symm HN.out
 rw [if_neg hx] at HT
 obtain⟨hp,hxx⟩:=not_or.1 hx
 obtain rfl:points=true:=by simpa using hp
 have HXX:=hJ (Decidable.not_not.1 hxx)
 clear hx hp hxx
 go_wp2_with fail
 replace HA:=HA.out.pT (g:=w1.heap.size) rfl t
 refine HA.out.stepV HT HN (fun _ h e=>P.tag hR.ok ⟨#[58]⟩ h.s e) ?_ ?_
 ·intro _ _ _ H;go_wp2_with fail;exact⟨rfl,Ans.badh H⟩
 clear zr yr HT HA
 intro b q2 w2 HT HA
 obtain⟨zt,zr,-⟩:=HA.out.fs
 have yr:=HA.out.fw 1 rfl
 cases b with
 |true=>
  replace HT:=hpos HT (by rfl)
  exact absurd HT.out.symm HN.out
 |false=>
  replace HT:=hneg HT (by decide)
  go_wp2_with fail
  refine HA.out.stepQ (fun _ h=>aR9 t.text HXX.out _) ?_
  clear zt zr yr HA
  intro w3 HA
  obtain⟨zt,zr,-⟩:=HA.out.fs
  have yr:=HA.out.fw 1 rfl
  go_wp2_with fail
  clear zt zr yr
  go_loopw [6,7] (fun u _ wr=>u= .string t.text∧∃q,Hid ((do
     let c←ay1 E.s ⟨#[46]⟩
     if c then outP else ae0 48 t.text t.from' []:PM Nd) q=T)∧Hid (Sa E F X0 w wr q [(w1.heap.size,true,.tk t),(w.heap.size,true,.z)] [] none)) (fun _ _ _=>0)
  case atStart=>exact⟨rfl,_,HT,HA.out.pick [0,1] [] (by decide)⟩
  case round=>
   clear HT HA
   obtain⟨rfl,q,HT,HA⟩:=hrel
   obtain⟨zt,zr,-⟩:=HA.out.fs
   have yr:=HA.out.fw 1 rfl
   go_wp2_with fail
   refine HA.out.stepV HT HN (fun _ h e=>P.tag hR.ok ⟨#[46]⟩ h.s e) ?_ ?_
   ·intro _ _ _ H;go_wp2_with fail;exact⟨rfl,Ans.badh H⟩
   clear zt zr yr HT HA
   intro c q4 w4 HT HA
   obtain⟨zt,zr,-⟩:=HA.out.fs
   have yr:=HA.out.fw 1 rfl
   cases c with
   |true=>
    replace HT:=hpos HT (by rfl)
    exact absurd HT.out.symm HN.out
   |false=>
    replace HT:=hneg HT (by decide)
    go_wp2_with fail
    replace HT:=ab5 HT
    refine HA.out.node0 48 t.text t.from' HT ?_
    clear zt zr yr HT HA
    intro n an cn w5 _ HT HA
    obtain⟨zt,zr,-⟩:=HA.out.fs
    have yr:=HA.out.fw 1 rfl
    go_wp2_with fail
    exact HA.out.fin_nd 1 0 rfl rfl rfl rfl rfl HT.out.symm
end
section
open Go.RowKit
attribute [local go_sem] aa8 aa9 ab0 ab1 ab2 ab3
attribute [local go_sem ↓] Go.wp_at_zero Go.wp_at_succ
theorem S.markupX {E:PE} {R:(x:Fn)→PM x.Out} (hR:Env E R) {F:Nat→Prop} {w:World} {p:Ps} (from':Int) (h:St E F w p) (hne:an7 E.s R from' p≠ .out):
  Calls Tryz.prog 249 #[.pointer (some ⟨E.b,0,none⟩),.int .i64 from'] w (Ans E F X0 w (an7 E.s R from' p) fun n v w'=>IsP E F w' n v):=by
 obtain⟨T,hT⟩: ∃T,an7 E.s R from' p=T:=⟨_,rfl⟩
 rw [hT] at hne⊢
 unfold an7 at hT
 have HT:=hJ hT
 have HN:=hJ hne
 have HA:=Sa.start0 (X:=X0) h
 clear h hne hT
 go_enter Tryz.func249,Tryz.ntmps249
 go_wp2_with fail
 replace HA:=HA.out.pZ (g:=w.heap.size) rfl
 refine HA.out.stepV HT HN (fun _ h e=>P.tag hR.ok ⟨#[62]⟩ h.s e) ?_ ?_
 ·intro _ _ _ H;go_wp2_with fail;exact⟨rfl,Ans.badh H⟩
 clear HT HA
 intro b q1 w1 HT HA
 obtain⟨zr,-⟩:=HA.out.fs
 have yr:=HA.out.fw 0 rfl
 cases b with
 |true=>
  replace HT:=hpos HT (by rfl)
  go_wp2_with fail
  refine HA.out.stepN HT HN (fun _ h e=>hR.h (.children ⟨#[]⟩) _ _ _ h.s e) ?_ ?_
  ·intro _ _ _ H;go_wp2_with fail;exact⟨rfl,Ans.badh H⟩
  clear zr yr HT HA
  intro kids akids ckids q2 w2 HT HA
  obtain⟨zr,-⟩:=HA.out.fs
  have yr:=HA.out.fw 0 rfl
  replace HT:=ab5 HT
  go_wp2_with fail
  replace HA:=HA.out.pN (g:=w2.heap.size) rfl kids akids ckids
  refine HA.out.node 55 ⟨#[]⟩ from' [(kids,akids,ckids)] (by simp) rfl (by simp) rfl rfl HT ?_
  clear zr yr HT HA
  intro m am cm w3 _ HT HA
  obtain⟨zkids,zr,-⟩:=HA.out.fs
  have yr:=HA.out.fw 1 rfl
  go_wp2_with fail
  exact HA.out.fin_nd 1 0 rfl rfl rfl rfl rfl HT.out.symm
 |false=>
  replace HT:=hneg HT (by decide)
  go_wp2_with fail
  refine HA.out.stepN HT HN (fun _ h e=>hR.h (.jname true) _ _ _ h.s e) ?_ ?_
  ·intro _ _ _ H;go_wp2_with fail;exact⟨rfl,Ans.badh H⟩
  clear zr yr HT HA
  intro id aid cid q2 w2 HT HA
  obtain⟨zr,-⟩:=HA.out.fs
  have yr:=HA.out.fw 0 rfl
  go_wp2_with fail
  replace HA:=HA.out.pN (g:=w2.heap.size) rfl id aid cid
  replace HA:=HA.out.p5 (g:=(w2.heap.size+1)) (by simp) (.int .i64 49) (.string ⟨#[]⟩) (.slice none 0 0) (.int .i64 0) (.int .i64 0) 26
  clear zr yr
  go_loopw [8,9,10] (fun _ _ _ wr=> ∃q,Hid ((do
     let t←ab4 E.s 5
     if t.kind=1∨punctT t ⟨#[123]⟩=true then outP else do
      let c←ay1 E.s ⟨#[47]⟩
      if c then do
       let _←ah3 E.s ⟨#[62]⟩
       ae0 47 ⟨#[]⟩ from' [id,.mk 49 ⟨#[]⟩ [] t.from' t.from',.zero]
      else do
       let _←ah3 E.s ⟨#[62]⟩
       let kids←R (.children id.text)
       ae0 47 ⟨#[]⟩ from' [id,.mk 49 ⟨#[]⟩ [] t.from' t.from',kids]:PM Nd) q=T)∧Hid (Sa E F X0 w wr q [((w2.heap.size+1),true,.c5 (.int .i64 49) (.string ⟨#[]⟩) (.slice none 0 0) (.int .i64 0) (.int .i64 0) 26),(w2.heap.size,true,.nd id aid cid),(w.heap.size,true,.z)] [(id,aid,cid)] none)) (fun _ _ _ _=>0)
  case atStart=>exact⟨_,HT,HA.out.pick [0,1,2] [0] (by decide)⟩
  case round=>
   clear HT HA
   obtain⟨q,HT,HA⟩:=hrel
   obtain⟨zat,zid,zr,-⟩:=HA.out.fs
   have yat:=HA.out.fw 0 rfl
   have yr:=HA.out.fw 2 rfl
   go_wp2_with fail
   refine HA.out.stepV HT HN (fun _ h e=>P.peek5 hR.ok h.s e) ?_ ?_
   ·intro _ _ _ H;go_wp2_with fail;exact⟨rfl,Ans.badh H⟩
   clear zat zid zr yat yr HT HA
   intro t q3 w3 HT HA
   obtain⟨zat,zid,zr,-⟩:=HA.out.fs
   have yat:=HA.out.fw 0 rfl
   have yr:=HA.out.fw 2 rfl
   by_cases hx:t.kind=1∨punctT t ⟨#[123]⟩=true
   ·rw [if_pos hx] at HT
    exact absurd HT.out.symm HN.out
   rw [if_neg hx] at HT
   have hk1:=kf (fun h=>hx (.inl h))
   have hu:punctT t ⟨#[123]⟩=false:=by simpa using fun h=>hx (.inr h)
   clear hx
   go_wp2_with fail
   replace HA:=HA.out.pT (g:=w3.heap.size) rfl t
   refine HA.out.stepQ (fun _ h=>P.punct t ⟨#[123]⟩ _) ?_
   clear zat zid zr yat yr HA
   intro w4 HA
   obtain⟨zt,zat,zid,zr,-⟩:=HA.out.fs
   have yat:=HA.out.fw 1 rfl
   have yr:=HA.out.fw 3 rfl
   rw [hu]
   clear hu
   go_upto_region 9 with fail
   clear zt zat zid zr yat yr
   generalize w4=w5 at*
   obtain⟨zt,zat,zid,zr,-⟩:=HA.out.fs
   have yat:=HA.out.fw 1 rfl
   have yr:=HA.out.fw 3 rfl
   go_region
   clear zt zat zid zr yat yr
   obtain⟨W3,e3,HA⟩:=HA.out.set34 1 rfl (.int .i64 t.from') (.int .i64 t.from')
   rw [e3]
   clear e3
   dsimp only [ac9] at HA
   replace HA:=HA.out.drew
   generalize World.drew W3=w9 at*
   replace HA:=HA.out.zero
   replace HA:=HA.out.re 0 rfl (Nd.mk 49 ⟨#[]⟩ [] t.from' t.from') rfl
   obtain⟨zt,zat,zid,zr,-⟩:=HA.out.fs
   have yat:=HA.out.fw 1 rfl
   have yr:=HA.out.fw 3 rfl
   go_wp2_with fail
   refine HA.out.stepV HT HN (fun _ h e=>P.tag hR.ok ⟨#[47]⟩ h.s e) ?_ ?_
   ·intro _ _ _ H;go_wp2_with fail;exact⟨rfl,Ans.badh H⟩
   clear zt zat zid zr yat yr HT HA
   intro c q6 w6 HT HA
   obtain⟨zt,zat,zid,zr,-⟩:=HA.out.fs
   have yat:=HA.out.fw 1 rfl
   have yr:=HA.out.fw 3 rfl
   cases c with
   |true=>
    replace HT:=hpos HT (by rfl)
    go_wp2_with fail
    refine HA.out.stepV HT HN (fun _ h e=>P.wantTag hR.ok ⟨#[62]⟩ h.s e) ?_ ?_
    ·intro _ _ _ H;go_wp2_with fail;exact⟨rfl,Ans.badh H⟩
    clear zt zat zid zr yat yr HT HA
    intro _ q7 w7 HT HA
    obtain⟨zt,zat,zid,zr,-⟩:=HA.out.fs
    have yat:=HA.out.fw 1 rfl
    have yr:=HA.out.fw 3 rfl
    replace HT:=ab5 HT
    go_wp2_with fail
    refine HA.out.node 47 ⟨#[]⟩ from' [(id,aid,cid),(Nd.mk 49 ⟨#[]⟩ [] t.from' t.from',none,0),(Nd.zero,none,0)] (by simp) rfl rfl rfl rfl HT ?_
    clear zt zat zid zr yat yr HT HA
    intro m am cm w8 _ HT HA
    obtain⟨zt,zat,zid,zr,-⟩:=HA.out.fs
    have yat:=HA.out.fw 1 rfl
    have yr:=HA.out.fw 3 rfl
    go_wp2_with fail
    exact HA.out.fin_nd 3 0 rfl rfl rfl rfl rfl HT.out.symm
   |false=>
    replace HT:=hneg HT (by decide)
    go_wp2_with fail
    refine HA.out.stepV HT HN (fun _ h e=>P.wantTag hR.ok ⟨#[62]⟩ h.s e) ?_ ?_
    ·intro _ _ _ H;go_wp2_with fail;exact⟨rfl,Ans.badh H⟩
    clear zt zat zid zr yat yr HT HA
    intro _ q7 w7 HT HA
    obtain⟨zt,zat,zid,zr,-⟩:=HA.out.fs
    have yat:=HA.out.fw 1 rfl
    have yr:=HA.out.fw 3 rfl
    go_wp2_with fail
    refine HA.out.stepN HT HN (fun _ h e=>hR.h (.children id.text) _ _ _ h.s e) ?_ ?_
    ·intro _ _ _ H;go_wp2_with fail;exact⟨rfl,Ans.badh H⟩
    clear zt zat zid zr yat yr HT HA
    intro kids akids ckids q8 w8 HT HA
    obtain⟨zt,zat,zid,zr,-⟩:=HA.out.fs
    have yat:=HA.out.fw 1 rfl
    have yr:=HA.out.fw 3 rfl
    replace HT:=ab5 HT
    go_wp2_with fail
    replace HA:=HA.out.pN (g:=w8.heap.size) rfl kids akids ckids
    refine HA.out.node 47 ⟨#[]⟩ from' [(id,aid,cid),(Nd.mk 49 ⟨#[]⟩ [] t.from' t.from',none,0),(kids,akids,ckids)] (by simp) rfl (by simp) rfl rfl HT ?_
    clear zt zat zid zr yat yr HT HA
    intro m am cm w9 _ HT HA
    obtain⟨zkids,zt,zat,zid,zr,-⟩:=HA.out.fs
    have yat:=HA.out.fw 2 rfl
    have yr:=HA.out.fw 4 rfl
    go_wp2_with fail
    exact HA.out.fin_nd 4 0 rfl rfl rfl rfl rfl HT.out.symm
end
end Go.Proofs.YtokfgpjclmdllaaGreatDoor
