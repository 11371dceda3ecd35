/- Steps (Qw). Conditions: as stated. -/
import Derived.Test.YtnobjeelihkjmaaGreatDoorZk23
set_option maxHeartbeats 1000000
set_option maxRecDepth 100000
namespace Go.Proofs.YtnobjeelihkjmaaGreatDoor
section
open Go.RowKit
attribute [local go_sem] ab3 ab4 ab5 ab6 ab7 ab8
attribute [local go_sem ↓] Go.wp_at_zero Go.wp_at_succ
section
variable {E:PE} {F X:Nat→Prop} {w w1:World} {p:Ps}
theorem KsIn.sameE {ks:List Nd} {v:Value} (h:KsIn E F w ks v) (ho:Only (fun j=>j=E.b) w w1) (hown: ∀k,Own w1 E.b k→Own w E.b k):KsIn E F w1 ks v:=by
 obtain⟨a,c,rfl,h1,h2⟩:=h
 exact⟨a,c,rfl,h1,ab2 (fun k hk=>⟨Nat.lt_of_lt_of_le hk.1 ho.size,fun h=>hk.2.1 (hown k h),hk.2.2⟩) (fun k hk=>ho.block k hk.1 fun e=>hk.2.1 (.inl e)) h2⟩
theorem KbR.pb {gp gk base:Nat} {kids:List Nd} (h:KbR E gp gk base kids F w) (hs:St E F w p) (hp:PB E.b X0 w w1):KbR E gp gk base kids F w1:=by
 obtain⟨l,v,h1,h2,h3,h4,h5,h6,h7,h8,h9⟩:=h
 exact⟨l,v,h1,h2,h3.same (hs.box hp h2),h4,h5.same (hs.box hp h4),h6.pb hs hp,h7,h8,Nat.le_trans h9 hp.only.size⟩
theorem KbR.done {G:Nat→Prop} {gp gk base:Nat} {kids:List Nd} (h:KbR E gp gk base kids F w) (hs:St E F w p) (hG: ∀k,G k→F k) (hb: ∀k,G k→k<base):St E G w p∧∃v,ac2 w gk v 25∧KsIn E G w kids v:=by
 obtain⟨l,v,rfl,h2,h3,h4,h5,h6,h7,h8,h9⟩:=h
 obtain⟨k1,k2⟩:=h6.fin hs
 have hF2: ∀k,G k→F k∧v.ownBlock≠some k:=fun k hk=>⟨hG k hk,h6.ne (hb k hk)⟩
 exact⟨k1.weak hF2,v,h5,k2.weak hF2⟩
end
theorem aI5 (E:PE) (gk:Nat):aM2 E (fun F (r:List Nd × Bool) w'=>(∃v,ac2 w' gk v 25∧KsIn E F w' r.1 v)∧F gk):=fun _ _ _ _ h hF ho hw=>⟨⟨h.1.choose,h.1.choose_spec.1.same (bz8 ho h.1.choose_spec.1.lt fun e=>hF (e▸h.2)),h.1.choose_spec.2.sameE ho hw⟩,h.2⟩
theorem C.arguments1 {E:PE} {R:(x:Fn)→PM x.Out} (hR:Env E R) (f:Nat) {gp gk:Nat} :
  CloS E (fun k=>k=gk) [(gp,false,.p E.b),(gk,true,.c1 (.slice none 0 0) 25)] (fun F (r:List Nd × Bool) w'=>(∃v,ac2 w' gk v 25∧KsIn E F w' r.1 v)∧F gk) (ar3 E.s ⟨#[41]⟩ 2 (fun kids=>if 4194304<kids.length then outP else do
   let k←R .spread
   ap8 E.s k
   return kids++ [k]) f [] false) 300 #[.pointer (some ⟨gp,0,none⟩),.pointer (some ⟨gk,0,none⟩)]:=by
 intro F w p h hB hd hne
 obtain⟨hgp,hB0⟩:=hB (gp,false,.p E.b) (by simp)
 obtain⟨hgk,hB1⟩:=hB (gk,true,.c1 (.slice none 0 0) 25) (by simp)
 replace hB0:PrAt w gp E.b:=hB0
 replace hB1:ac2 w gk (.slice none 0 0) 25:=hB1
 clear hB hd
 have HL:=hJ (P.list hR.ok ⟨#[41]⟩ 2 f [] (fun _=>by kernel_rfl) (C.arguments11 hR) (fun _ _ _ _ _ ha hs hp=>ha.pb hs hp) ⟨[],_,rfl,hgp,hB0,hgk,hB1,KsO.nil _ _ _ _,hB1.lt,hB0.lt,Nat.le_refl _⟩ h hne)
 have HN:=hJ hne
 have HFO:=hJ (fun(k:Nat) (hk:F k)=>(h.fo k hk).2.1)
 obtain⟨zp0,yp0⟩:=hB0.fs
 have lp:=hB0.lt
 generalize (ar3 E.s ⟨#[41]⟩ 2 (fun kids=>if 4194304<kids.length then outP else do
   let k←R .spread
   ap8 E.s k
   return kids++ [k]) f [] false) p=T at*
 clear h hne hB0 hB1
 go_enter Tryz.func300,Tryz.ntmps300
 go_wp2_with fail
 refine HL.out.mono ?_
 intro e w1 h1
 unfold AnsL at h1
 cases T with
 |out=>exact absurd rfl HN.out
 |bad c i=>
  obtain⟨rfl,hp1⟩:=h1
  have HP:=hJ hp1
  clear hp1 HL
  go_wp2_with fail
  exact⟨rfl,Ans.bad rfl HP.out⟩
 |ok r q=>
  obtain⟨F2,hF2,rfl,ha,hs,hp⟩:=h1
  have HA:=hJ (ha.done hs hF2 HFO.out)
  have HP:=hJ hp
  clear ha hs hp hF2 HL
  go_wp2_with fail
  obtain⟨hs3,v,hc,hk⟩:=HA.out
  exact bodyPost_end (results_none rfl _ _ _) rfl (Ans.ok rfl ⟨rfl,⟨v,hc,hk⟩,hgk⟩ hs3 HP.out)
theorem S.arguments {E:PE} {R:(x:Fn)→PM x.Out} (hR:Env E R) {F:Nat→Prop} {w:World} {p:Ps} (f:Nat) (from':Int) (h:St E F w p) (hne:an1 E.s f R from' p≠ .out):
  Calls Tryz.prog 274 #[.pointer (some ⟨E.b,0,none⟩),.int .i64 from'] w (Ans E F X0 w (an1 E.s f R from' p) fun n v w'=>IsP E F w' n v):=by
 obtain⟨T,hT⟩: ∃T,an1 E.s f R from' p=T:=⟨_,rfl⟩
 rw [hT] at hne⊢
 unfold an1 at hT
 have HT:=hJ hT
 have HN:=hJ hne
 have HA:=Sa.start0 (X:=X0) h
 clear h hne hT
 go_enter Tryz.func274,Tryz.ntmps274
 go_wp2_with fail
 replace HA:=HA.out.pP (g:=w.heap.size) rfl
 replace HA:=HA.out.pZ (g:=(w.heap.size+1)) (by simp)
 replace HA:=HA.out.p1 (g:=(w.heap.size+2)) (by simp) (.slice none 0 0) 25
 refine HA.out.withG hR.ok 1 0 HT HN (fun _=>by kernel_rfl) (C.arguments1 hR f) (aI5 _ _) [2,0] ⟨⟨_,_,rfl,.inl rfl⟩,⟨_,_,rfl,.inl rfl⟩,trivial⟩ (by decide) (fun i hi=> .inr (by have:=HA.out.size;simp at this;omega)) ?_ ?_
 ·intro _ _ _ H;go_wp2_with fail;exact⟨rfl,Ans.badh H⟩
 clear HT HA
 intro F9 rr q1 w1 h9 hs9 hp9 ha9 HT
 obtain⟨ks,bb⟩:=rr
 obtain⟨⟨vk,hbk,hks⟩,_⟩:=ha9
 dsimp only at HT hks
 obtain⟨akn,ckn,rfl,hk9⟩:=KsIn.asP hks
 have HA:=((h9.callc 0 rfl hs9 hp9 (c:= .c1 (.slice akn ks.length ckn) 25) hbk).node hk9).a
 replace HA:=hJ HA
 clear h9 hs9 hp9 hbk hks hk9
 dsimp only [ae4] at HA
 obtain⟨zkb,zr,zpb,-⟩:=HA.out.fs
 have yr:=HA.out.fw 1 rfl
 replace HT:=ac9 HT
 go_wp2_with fail
 refine HA.out.nodeK 36 ⟨#[]⟩ from' 0 rfl HT ?_
 clear zkb zr zpb yr HT HA
 intro m am cm w2 _ HT HA
 obtain⟨zkb,zr,zpb,-⟩:=HA.out.fs
 have yr:=HA.out.fw 1 rfl
 go_wp2_with fail
 exact HA.out.fin_nd 1 0 rfl rfl rfl rfl rfl HT.out.symm
end
end Go.Proofs.YtnobjeelihkjmaaGreatDoor
