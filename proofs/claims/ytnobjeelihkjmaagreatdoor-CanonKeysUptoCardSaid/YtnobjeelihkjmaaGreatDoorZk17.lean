/- Steps (Pm2 Px Po). Conditions: as stated. -/
import Derived.Test.YtnobjeelihkjmaaGreatDoorZk11
import Derived.Deep.DrawnRows
import Derived.Test.YtnobjeelihkjmaaGreatDoorZk16
set_option maxHeartbeats 1000000
set_option maxRecDepth 100000
namespace Go.Proofs.YtnobjeelihkjmaaGreatDoor
section
open Go.RowKit
attribute [local go_sem] ab3 ab4 ab5 ab6 ab7 ab8
attribute [local go_sem ↓] Go.wp_at_zero Go.wp_at_succ
def ExR (E:PE) (R:(x:Fn)→PM x.Out) (f:Nat) (F:Nat→Prop) (w:World) (r gn:Nat) (n:Nd) (an:Option Addr) (cn:Nat) (T:Res Nd) (k:Nat) (u:Value) (wr:World):Prop:=
 ∃(l:List Kd) (q:Ps),l.length+k≤f+1∧Hid (ah3.seqL E.s R k (l.map (·.1)) n.from' q=T)∧Hid (Sa E F X0 w wr q [(r,true,.z),(gn,true,.nd n an cn)] [] (some (u,l)))
theorem S.expression {E:PE} {R:(x:Fn)→PM x.Out} (hR:Env E R) {F:Nat→Prop} {w:World} {p:Ps} (f:Nat) (hf:f≤1073741824) (h:St E F w p) (hne:ah3 E.s f R p≠ .out):
  Calls Tryz.prog 17 #[.pointer (some ⟨E.b,0,none⟩)] w (Ans E F X0 w (ah3 E.s f R p) fun n v w'=>IsP E F w' n v):=by
 obtain⟨T,hT⟩: ∃T,ah3 E.s f R p=T:=⟨_,rfl⟩
 rw [hT] at hne⊢
 unfold ah3 at hT
 have HT:=hJ hT
 have HN:=hJ hne
 have HA:=Sa.start0 (X:=X0) h
 clear h hne hT
 go_enter Tryz.func17,Tryz.ntmps17
 go_wp2_with fail
 replace HA:=HA.out.pZ (g:=w.heap.size) rfl
 refine HA.out.stepN HT HN (fun _ h e=>hR.h .assign _ _ _ h.s e) ?_ ?_
 ·intro _ _ _ H;go_wp2_with fail;exact⟨rfl,Ans.badh H⟩
 clear HT HA
 intro n an cn q1 w1 HT HA
 obtain⟨zr,-⟩:=HA.out.fs
 have yr:=HA.out.fw 0 rfl
 go_wp2_with fail
 replace HA:=HA.out.pN (g:=w1.heap.size) rfl n an cn
 refine HA.out.stepV HT HN (fun _ h e=>P.peek hR.ok 1 h.s e) ?_ ?_
 ·intro _ _ _ H;go_wp2_with fail;exact⟨rfl,Ans.badh H⟩
 clear zr yr HT HA
 intro t q2 w2 HT HA
 obtain⟨zn,zr,-⟩:=HA.out.fs
 have yr:=HA.out.fw 1 rfl
 go_wp2_with fail
 refine HA.out.stepQ (fun _ h=>P.punct t ⟨#[44]⟩ _) ?_
 clear zn zr yr HA
 intro w3 HA
 obtain⟨zn,zr,-⟩:=HA.out.fs
 have yr:=HA.out.fw 1 rfl
 cases hc:aa2 t ⟨#[44]⟩ with
 |true=>
  replace HT:=hpos HT (by rw [hc])
  go_wp2_with fail
  replace HA:=HA.out.row1 0 rfl
  go_loopg [4] f (fun k u wr=>ExR E R f F w (w.heap.size) (w1.heap.size) n an cn T k u wr)
  case atStart=>exact⟨[(n,an,cn)],_,by simp;omega,HT,HA.out.pick [1,0] [] (by decide)⟩
  case round=>
   clear zn zr yr HT HA
   obtain⟨lk,q,hlen,HT,HA⟩:=hrel
   cases gk with
   |zero=>exact absurd HT.out.symm HN.out
   |succ k=>
    unfold ah3.seqL at HT
    obtain⟨sa,sc,rfl⟩:=HA.out.rowform
    obtain⟨zr,zn,-⟩:=HA.out.fs
    have yr:=HA.out.fw 0 rfl
    go_wp2_with fail
    refine HA.out.stepV HT HN (fun _ h e=>P.is hR.ok ⟨#[44]⟩ h.s e) ?_ ?_
    ·intro _ _ _ H;go_wp2_with fail;exact⟨rfl,Ans.badh H⟩
    clear zr zn yr HT HA
    intro b q4 w4 HT HA
    obtain⟨zr,zn,-⟩:=HA.out.fs
    have yr:=HA.out.fw 0 rfl
    cases b with
    |true=>
     replace HT:=hpos HT (by rfl)
     go_wp2_with fail
     refine HA.out.stepN HT HN (fun _ h e=>hR.h .assign _ _ _ h.s e) ?_ ?_
     ·intro _ _ _ H;go_wp2_with fail;exact⟨rfl,Ans.badh H⟩
     clear zr zn yr HT HA
     intro x ax cx q5 w5 HT HA
     obtain⟨zr,zn,-⟩:=HA.out.fs
     have yr:=HA.out.fw 0 rfl
     go_wp2_with (at_builtin;refine aK2 (by rfl) _ _ _ (by rfl) (by kernel_rfl) ak2 HA.out 0 rfl (by rfl) (g:=w5.heap.size) rfl (by rfl) rfl (by omega) ?_;clear zr zn yr HA;intro rr rc w6 HA)
     go_roundg k
     case measure=>exact Nat.lt_succ_self k
     case rel=>exact⟨lk++ [(x,ax,cx)],_,by simp;omega,by rw [List.map_append];exact HT,HA.out.pick [0,1] [] (by decide)⟩
    |false=>
     replace HT:=hneg HT (by decide)
     go_wp2_with fail
     replace HT:=ac9 HT
     refine HA.out.nodeR 32 ⟨#[]⟩ n.from' rfl HT ?_
     clear zr zn yr HT HA
     intro m am cm w5 _ HT HA
     obtain⟨zr,zn,-⟩:=HA.out.fs
     have yr:=HA.out.fw 0 rfl
     go_wp2_with fail
     exact HA.out.fin_nd 0 0 rfl rfl rfl rfl rfl HT.out.symm
 |false=>
  replace HT:=hneg HT (by rw [hc];decide)
  go_wp2_with fail
  exact HA.out.fin_nd 1 0 rfl rfl rfl rfl rfl HT.out.symm
end
section
open Go.RowKit
attribute [local go_sem] ab3 ab4 ab5 ab6 ab7 ab8
attribute [local go_sem ↓] Go.wp_at_zero Go.wp_at_succ
theorem S.operand {E:PE} {R:(x:Fn)→PM x.Out} (hR:Env E R) {F:Nat→Prop} {w:World} {p:Ps} (least:Int) (h:St E F w p) (hne:aw4 E.s R least p≠ .out):
  Calls Tryz.prog 156 #[.pointer (some ⟨E.b,0,none⟩),.int .i64 least] w (Ans E F X0 w (aw4 E.s R least p) fun n v w'=>IsP E F w' n v):=by
 obtain⟨T,hT⟩: ∃T,aw4 E.s R least p=T:=⟨_,rfl⟩
 rw [hT] at hne⊢
 unfold aw4 at hT
 have HT:=hJ hT
 have HN:=hJ hne
 have HA:=Sa.start0 (X:=X0) h
 clear h hne hT
 go_enter Tryz.func156,Tryz.ntmps156
 go_wp2_with fail
 replace HA:=HA.out.pZ (g:=w.heap.size) rfl
 refine HA.out.stepV HT HN (fun _ h e=>P.peek hR.ok 2 h.s e) ?_ ?_
 ·intro _ _ _ H;go_wp2_with fail;exact⟨rfl,Ans.badh H⟩
 clear HT HA
 intro t q1 w1 HT HA
 obtain⟨zr,-⟩:=HA.out.fs
 have yr:=HA.out.fw 0 rfl
 by_cases hk2:t.kind=2
 ·have hk2w:(t.kind !=2)=false:=by rw [hk2];rfl
  replace HT:=hneg HT (by exact fun h=>h hk2)
  have hk2':=hJ hk2
  clear hk2
  go_wp2_with fail
  replace HA:=HA.out.pT (g:=w1.heap.size) rfl t
  refine HA.out.stepV HT HN (fun _ h e=>P.take hR.ok h.s e) ?_ ?_
  ·intro _ _ _ H;go_wp2_with fail;exact⟨rfl,Ans.badh H⟩
  clear zr yr HT HA
  intro _ q2 w2 HT HA
  obtain⟨zt,zr,-⟩:=HA.out.fs
  have yr:=HA.out.fw 1 rfl
  go_wp2_with fail
  refine HA.out.stepV HT HN (fun _ h e=>P.peek hR.ok 1 h.s e) ?_ ?_
  ·intro _ _ _ H;go_wp2_with fail;exact⟨rfl,Ans.badh H⟩
  clear zt zr yr HT HA
  intro next q3 w3 HT HA
  obtain⟨zt,zr,-⟩:=HA.out.fs
  have yr:=HA.out.fw 1 rfl
  replace HT:=hget HT
  have cEflags:=HA.out.c_flags
  have lE:=HA.out.lt
  cases h8:decide (8<least) with
  |true=>
   replace HT:=hpos HT (by rw [h8];rfl)
   go_wp2_with fail
   replace HA:=HA.out.pT (g:=w3.heap.size) rfl next
   refine(P.fail _ _ _ _).mono ?_
   rintro e w9 ⟨rfl,rfl⟩
   have H:=HA.out.bad HT.out.symm
   go_wp2_with fail
   exact⟨rfl,Ans.badh H⟩
  |false=>
   have h8': ¬8<least:=of_decide_eq_false h8
   cases hf:(bits .and .i64 q3.flags 1==0) with
   |true=>
    replace HT:=hpos HT (by rw [h8];unfold hasF;rw [hf];rfl)
    go_wp2_with fail
    replace HA:=HA.out.pT (g:=w3.heap.size) rfl next
    refine(P.fail _ _ _ _).mono ?_
    rintro e w9 ⟨rfl,rfl⟩
    have H:=HA.out.bad HT.out.symm
    go_wp2_with fail
    exact⟨rfl,Ans.badh H⟩
   |false=>
    go_wp2_with fail
    replace HA:=HA.out.pT (g:=w3.heap.size) rfl next
    refine HA.out.stepQ (fun _ h=>P.name next ⟨#[105,110]⟩ _) ?_
    clear zt zr yr cEflags lE HA
    intro w4 HA
    obtain⟨znext,zt,zr,-⟩:=HA.out.fs
    have yr:=HA.out.fw 2 rfl
    cases hd:ae7 next ⟨#[105,110]⟩ with
    |true=>
     replace HT:=hneg HT (by rw [h8,hd];unfold hasF;rw [hf];decide)
     go_wp2_with fail
     refine HA.out.leaf 2 t ?_
     clear znext zt zr yr HA
     intro n an cn w5 HE HA
     rw [HE.out] at HT
     clear HE
     obtain⟨znext,zt,zr,-⟩:=HA.out.fs
     have yr:=HA.out.fw 2 rfl
     go_wp2_with fail
     exact HA.out.fin_nd 2 0 rfl rfl rfl rfl rfl HT.out.symm
    |false=>
     replace HT:=hpos HT (by rw [hd];simp)
     go_wp2_with fail
     refine(P.fail _ _ _ _).mono ?_
     rintro e w9 ⟨rfl,rfl⟩
     have H:=HA.out.bad HT.out.symm
     go_wp2_with fail
     exact⟨rfl,Ans.badh H⟩
 ·have hk2w:(t.kind !=2)=true:=by rw [bne_iff_ne];exact hk2
  replace HT:=hpos HT (by exact hk2)
  have hk2':=hJ hk2
  clear hk2
  go_wp2_with fail
  replace HT:=ac9 HT
  replace HA:=HA.out.pT (g:=w1.heap.size) rfl t
  refine HA.out.stepN HT HN (fun _ h e=>hR.h .unary _ _ _ h.s e) ?_ ?_
  ·intro _ _ _ H;go_wp2_with fail;exact⟨rfl,Ans.badh H⟩
  clear zr yr HT HA
  intro n an cn q2 w2 HT HA
  obtain⟨zt,zr,-⟩:=HA.out.fs
  have yr:=HA.out.fw 1 rfl
  go_wp2_with fail
  exact HA.out.fin_nd 1 0 rfl rfl rfl rfl rfl HT.out.symm
end
section
open Go.RowKit
attribute [local go_sem] ab3 ab4 ab5 ab6 ab7 ab8
attribute [local go_sem ↓] Go.wp_at_zero Go.wp_at_succ
theorem S.cond {E:PE} {R:(x:Fn)→PM x.Out} (hR:Env E R) {F:Nat→Prop} {w:World} {p:Ps} (h:St E F w p) (hne:bj3 E.s R p≠ .out):
  Calls Tryz.prog 53 #[.pointer (some ⟨E.b,0,none⟩)] w (Ans E F X0 w (bj3 E.s R p) fun n v w'=>IsP E F w' n v):=by
 obtain⟨T,hT⟩: ∃T,bj3 E.s R p=T:=⟨_,rfl⟩
 rw [hT] at hne⊢
 unfold bj3 at hT
 have HT:=hJ hT
 have HN:=hJ hne
 have HA:=Sa.start0 (X:=X0) h
 clear h hne hT
 go_enter Tryz.func53,Tryz.ntmps53
 go_wp2_with fail
 replace HA:=HA.out.pZ (g:=w.heap.size) rfl
 refine HA.out.stepN HT HN (fun _ h e=>hR.h (.binary 1 false) _ _ _ ⟨by decide,by decide⟩ h.s e) ?_ ?_
 ·intro _ _ _ H;go_wp2_with fail;exact⟨rfl,Ans.badh H⟩
 clear HT HA
 intro n an cn q1 w1 HT HA
 obtain⟨zr,-⟩:=HA.out.fs
 have yr:=HA.out.fw 0 rfl
 by_cases h22:Nd.kind n=22
 ·have hk22:(Nd.kind n==22)=true:=by rw [beq_iff_eq];exact h22
  replace HT:=hpos HT (by exact h22)
  clear h22
  go_wp2_with fail
  exact HA.out.fin_ndA 0 0 rfl rfl rfl rfl rfl HT.out.symm
 ·have hk22:(Nd.kind n==22)=false:=by rw [beq_eq_false_iff_ne];exact h22
  replace HT:=hneg HT (by exact h22)
  clear h22
  go_wp2_with fail
  replace HA:=HA.out.pN (g:=w1.heap.size) rfl n an cn
  refine HA.out.stepV HT HN (fun _ h e=>P.is hR.ok ⟨#[63]⟩ h.s e) ?_ ?_
  ·intro _ _ _ H;go_wp2_with fail;exact⟨rfl,Ans.badh H⟩
  clear zr yr HT HA
  intro b q2 w2 HT HA
  obtain⟨zn,zr,-⟩:=HA.out.fs
  have yr:=HA.out.fw 1 rfl
  cases b with
  |true=>
   replace HT:=hpos HT (by rfl)
   go_wp2_with fail
   refine HA.out.stepN HT HN (fun _ h e=>hR.h .innerAssign _ _ _ h.s e) ?_ ?_
   ·intro _ _ _ H;go_wp2_with fail;exact⟨rfl,Ans.badh H⟩
   clear zn zr yr HT HA
   intro x ax cx q3 w3 HT HA
   obtain⟨zn,zr,-⟩:=HA.out.fs
   have yr:=HA.out.fw 1 rfl
   go_wp2_with fail
   replace HA:=HA.out.pN (g:=w3.heap.size) rfl x ax cx
   refine HA.out.stepV HT HN (fun _ h e=>P.want hR.ok ⟨#[58]⟩ h.s e) ?_ ?_
   ·intro _ _ _ H;go_wp2_with fail;exact⟨rfl,Ans.badh H⟩
   clear zn zr yr HT HA
   intro _ q4 w4 HT HA
   obtain⟨zx,zn,zr,-⟩:=HA.out.fs
   have yr:=HA.out.fw 2 rfl
   go_wp2_with fail
   refine HA.out.stepN HT HN (fun _ h e=>hR.h .assign _ _ _ h.s e) ?_ ?_
   ·intro _ _ _ H;go_wp2_with fail;exact⟨rfl,Ans.badh H⟩
   clear zx zn zr yr HT HA
   intro y ay cy q5 w5 HT HA
   obtain⟨zx,zn,zr,-⟩:=HA.out.fs
   have yr:=HA.out.fw 2 rfl
   go_wp2_with fail
   replace HT:=ac9 HT
   replace HA:=HA.out.pN (g:=w5.heap.size) rfl y ay cy
   refine HA.out.node 31 ⟨#[]⟩ n.from' [(n,an,cn),(x,ax,cx),(y,ay,cy)] (by simp) rfl (by simp) rfl rfl HT ?_
   clear zx zn zr yr HT HA
   intro m am cm w6 _ HT HA
   obtain⟨zy,zx,zn,zr,-⟩:=HA.out.fs
   have yr:=HA.out.fw 3 rfl
   go_wp2_with fail
   exact HA.out.fin_nd 3 0 rfl rfl rfl rfl rfl HT.out.symm
  |false=>
   replace HT:=hneg HT (by decide)
   go_wp2_with fail
   exact HA.out.fin_nd 1 0 rfl rfl rfl rfl rfl HT.out.symm
end
end Go.Proofs.YtnobjeelihkjmaaGreatDoor
