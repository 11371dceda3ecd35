/- Steps (U0 U1). Conditions: as stated. -/
import Derived.Test.YtnobjeelihkjmaaGreatDoorZk08
import Derived.Test.YtnobjeelihkjmaaGreatDoorZk11
import Derived.Test.YtnobjeelihkjmaaGreatDoorZk24
import Derived.Test.YtnobjeelihkjmaaGreatDoorZk29
set_option maxHeartbeats 4000000
set_option maxRecDepth 100000
namespace Go.Proofs.YtnobjeelihkjmaaGreatDoor
section
open Go.RowKit
attribute [local go_sem] ab3 ab4 ab5 ab6 ab7 ab8
attribute [local go_sem ↓] Go.wp_at_zero Go.wp_at_succ
theorem P.key1 (t:Tk) (hk:t.kind=1∨t.kind=4) (cls:Bool) (w:World):Calls Tryz.prog 287 #[.agg #[.int .i64 t.kind,.string t.text,.int .i64 t.from',.int .i64 t.till,.bool t.line],.bool cls] w fun e w'=>e= .returned (.bool true)∧Below w.heap.size w w':=by
 obtain⟨k,x,f,u,l⟩:=t
 dsimp only at hk⊢
 rcases hk with rfl|rfl
 all_goals
  go_enter Tryz.func287,Tryz.ntmps287
  go_wp2_with fail
  go_ret
  exact⟨rfl,Below.alloc (Below.refl _ _) (Nat.le_refl _) _⟩
theorem S.takeKey {E:PE} {R:(x:Fn)→PM x.Out} (hR:Env E R) {F:Nat→Prop} {w:World} {p:Ps} (cls:Bool) (h:St E F w p) (hne:ax6 E.s p≠ .out):
  Calls Tryz.prog 265 #[.pointer (some ⟨E.b,0,none⟩),.bool cls] w (Ans E F X0 w (ax6 E.s p) fun n v w'=>IsP E F w' n v):=by
 obtain⟨T,hT⟩: ∃T,ax6 E.s p=T:=⟨_,rfl⟩
 rw [hT] at hne⊢
 unfold ax6 at hT
 have HT:=hJ hT
 have HN:=hJ hne
 have HA:=Sa.start0 (X:=X0) h
 clear h hne hT
 go_enter Tryz.func265,Tryz.ntmps265
 go_wp2_with fail
 replace HA:=HA.out.pZ (g:=w.heap.size) rfl
 refine HA.out.stepV HT HN (fun _ h e=>P.peek hR.ok 1 h.s e) ?_ ?_
 ·intro _ _ _ H;go_wp2_with fail;exact⟨rfl,Ans.badh H⟩
 clear HT HA
 intro t q1 w1 HT HA
 obtain⟨zr,-⟩:=HA.out.fs
 have yr:=HA.out.fw 0 rfl
 by_cases hk1:t.kind=1
 ·have hk1w:=kt hk1
  replace HT:=hpos HT (by exact hk1)
  have HK1:=hJ hk1
  clear hk1
  go_wp2_with fail
  replace HA:=HA.out.pT (g:=w1.heap.size) rfl t
  refine HA.out.stepQ (fun _ h=>P.key1 t (.inl HK1.out) _ _) ?_
  clear zr yr HA
  intro w2 HA
  obtain⟨zt,zr,-⟩:=HA.out.fs
  have yr:=HA.out.fw 1 rfl
  go_wp2_with fail
  refine HA.out.stepV HT HN (fun _ h e=>P.take hR.ok h.s e) ?_ ?_
  ·intro _ _ _ H;go_wp2_with fail;exact⟨rfl,Ans.badh H⟩
  clear zt zr yr HT HA
  intro _ q3 w3 HT HA
  obtain⟨zt,zr,-⟩:=HA.out.fs
  have yr:=HA.out.fw 1 rfl
  replace HT:=ac9 HT
  go_wp2_with fail
  refine HA.out.leaf 1 t ?_
  clear zt zr yr HA
  intro n an cn w4 HE HA
  rw [HE.out] at HT
  clear HE
  obtain⟨zt,zr,-⟩:=HA.out.fs
  have yr:=HA.out.fw 1 rfl
  go_wp2_with fail
  exact HA.out.fin_nd 1 0 rfl rfl rfl rfl rfl HT.out.symm
 ·have hk1w:=kf hk1
  replace HT:=hneg HT (by exact hk1)
  clear hk1
  by_cases hk4:t.kind=4
  ·have hk4w:=kt hk4
   replace HT:=hpos HT (by exact hk4)
   have HK4:=hJ hk4
   clear hk4
   go_wp2_with fail
   replace HA:=HA.out.pT (g:=w1.heap.size) rfl t
   refine HA.out.stepQ (fun _ h=>P.key1 t (.inr HK4.out) _ _) ?_
   clear zr yr HA
   intro w2 HA
   obtain⟨zt,zr,-⟩:=HA.out.fs
   have yr:=HA.out.fw 1 rfl
   go_wp2_with fail
   refine HA.out.stepV HT HN (fun _ h e=>P.take hR.ok h.s e) ?_ ?_
   ·intro _ _ _ H;go_wp2_with fail;exact⟨rfl,Ans.badh H⟩
   clear zt zr yr HT HA
   intro _ q3 w3 HT HA
   obtain⟨zt,zr,-⟩:=HA.out.fs
   have yr:=HA.out.fw 1 rfl
   replace HT:=ac9 HT
   go_wp2_with fail
   refine HA.out.leaf 4 t ?_
   clear zt zr yr HA
   intro n an cn w4 HE HA
   rw [HE.out] at HT
   clear HE
   obtain⟨zt,zr,-⟩:=HA.out.fs
   have yr:=HA.out.fw 1 rfl
   go_wp2_with fail
   exact HA.out.fin_nd 1 0 rfl rfl rfl rfl rfl HT.out.symm
  ·have hk4w:=kf hk4
   replace HT:=hneg HT (by exact hk4)
   exact absurd HT.out.symm HN.out
theorem bF7 {fn:Func} {r u1 u2:Tmp} (h:fn.results= #[.tmp u1,.tmp u2,.cell r 27]) (tmps:Array Value) (w:World) (g:Nat) {k:Int} {t:ByteArray} {b:Option Addr} {n cap:Nat} {f z:Int} (hp:tmps.getD r undef= .pointer (some ⟨g,0,none⟩)) (hx:ab0 w g k t b n cap f z):
  (results fn tmps).run Tryz.prog w= .ok (.tuple #[tmps.getD u1 undef,tmps.getD u2 undef,.agg (aa7 k t b n cap f z)]) w:=by
 have hp':tmps[r]?.getD undef= .pointer (some ⟨g,0,none⟩):=by simpa using hp
 have hl:(loadVar 27 ⟨g,0,none⟩).run Tryz.prog w= .ok (.agg (aa7 k t b n cap f z)) w:=run_loadVar_row w g 27 27 _ (0,0) _ hx Tryz.underlying27 rfl (by kernel_rfl)
 simp [results,h,hp',asAddr,hl]
theorem Sa.fin_mod {E:PE} {F0 X:Nat→Prop} {w0 w:World} {q:Ps} {bs:List Box} {ns:List Kd} {ro:Ro} {fn:Func} {r u1 u2:Tmp} {tmps:Array Value} {g:Nat} {b:Bx} {T:Res Unit} (h:Sa E F0 X w0 w q bs ns ro) (i:Nat) (hr:fn.results= #[.tmp u1,.tmp u2,.cell r 27]) (h1:tmps.getD u1 undef= .bool false) (h2:tmps.getD u2 undef= .bool false) (hr2:tmps.getD r undef= .pointer (some ⟨g,0,none⟩)) (hb:nth bs i=some (g,true,b)) (ht2:b.ty=some 27) (ht:T= .ok () q):
  bodyPost Tryz.prog fn (Ans E F0 X w0 T fun _ v _=>v= .tuple #[.bool false,.bool false,.agg #[.int .i64 0,.string ⟨#[]⟩,.slice none 0 0,.int .i64 0,.int .i64 0]]) Exit.ret { tmps:=tmps,defers:= [] } (((((w.setCell ⟨g,0,none⟩ (.int .i64 0)).setCell ⟨g,1,none⟩ (.string ⟨#[]⟩)).setCell ⟨g,2,none⟩ (.slice none 0 0)).setCell ⟨g,3,none⟩ (.int .i64 0)).setCell ⟨g,4,none⟩ (.int .i64 0)).drew:=by
 obtain⟨F,h⟩:=h
 have h3:=(h.set5 i hb ht2 (.int .i64 0) (.string ⟨#[]⟩) (.slice none 0 0) (.int .i64 0) (.int .i64 0)).keep (Only.refl _ _).drew
 have h5:=(h.bx _ (ab1 hb)).2.1.set5 ht2 (.int .i64 0) (.string ⟨#[]⟩) (.slice none 0 0) (.int .i64 0) (.int .i64 0)
 generalize (((((w.setCell ⟨g,0,none⟩ (.int .i64 0)).setCell ⟨g,1,none⟩ (.string ⟨#[]⟩)).setCell ⟨g,2,none⟩ (.slice none 0 0)).setCell ⟨g,3,none⟩ (.int .i64 0)).setCell ⟨g,4,none⟩ (.int .i64 0))=W at*
 have h6:ab0 W.drew g 0 ⟨#[]⟩ none 0 0 0 0:=h5
 exact bodyPost_ret (bF7 hr _ _ g hr2 h6) rfl (h3.ans ht (by rw [h1,h2];rfl))
theorem S.modifier {E:PE} {R:(x:Fn)→PM x.Out} (hR:Env E R) {F:Nat→Prop} {w:World} {p:Ps} (x:ByteArray) (cls:Bool) (u:Value) (h:St E F w p) (hne:ag2 E.s x p≠ .out):
  Calls Tryz.prog 288 #[.pointer (some ⟨E.b,0,none⟩),.string x,.bool cls,u] w (Ans E F X0 w (ag2 E.s x p) fun _ v _=>v= .tuple #[.bool false,.bool false,.agg #[.int .i64 0,.string ⟨#[]⟩,.slice none 0 0,.int .i64 0,.int .i64 0]]):=by
 obtain⟨T,hT⟩: ∃T,ag2 E.s x p=T:=⟨_,rfl⟩
 rw [hT] at hne⊢
 unfold ag2 at hT
 have HT:=hJ hT
 have HN:=hJ hne
 have HA:=Sa.start0 (X:=X0) h
 clear h hne hT
 go_enter Tryz.func288,Tryz.ntmps288
 go_wp2_with fail
 replace HA:=HA.out.pZ (g:=w.heap.size) rfl
 refine HA.out.stepV HT HN (fun _ h e=>P.peek hR.ok 1 h.s e) ?_ ?_
 ·intro _ _ _ H;go_wp2_with fail;exact⟨rfl,Ans.badh H⟩
 clear HT HA
 intro t q1 w1 HT HA
 obtain⟨zr,-⟩:=HA.out.fs
 have yr:=HA.out.fw 0 rfl
 go_wp2_with fail
 replace HA:=HA.out.pT (g:=w1.heap.size) rfl t
 refine HA.out.stepQ (fun _ h=>P.name t x _) ?_
 clear zr yr HA
 intro w2 HA
 obtain⟨zt,zr,-⟩:=HA.out.fs
 have yr:=HA.out.fw 1 rfl
 cases hn:ae7 t x with
 |true=>
  replace HT:=hpos HT (by rw [hn])
  exact absurd HT.out.symm HN.out
 |false=>
  replace HT:=hneg HT (by rw [hn];decide)
  go_upto_region 3 with fail
  go_region
  all_goals
   go_wp2_with fail
   exact HA.out.fin_mod 1 rfl rfl rfl rfl rfl rfl HT.out.symm
end
section
open Go.RowKit
attribute [local go_sem] ab3 ab4 ab5 ab6 ab7 ab8
attribute [local go_sem ↓] Go.wp_at_zero Go.wp_at_succ
theorem aP6 {α:Type} : ∀ {l:List α} {i j:Nat} {x y:α},i≠j→nth l i=some x→nth (ae4 l j y) i=some x
 | [],_,_,_,_,_,h=>by cases h
 |_::_,0,0,_,_,h,_=>absurd rfl h
 |_::_,0,_+1,_,_,_,h=>h
 |_::_,_+1,0,_,_,_,h=>h
 |_::l,i+1,j+1,_,_,hn,h=>aP6 (l:=l) (i:=i) (j:=j) (fun e=>hn (congrArg (· +1) e)) h
section
variable {E:PE} {F0 X:Nat→Prop} {w0 w:World} {q:Ps} {bs:List Box} {ns:List Kd} {ro:Ro}
theorem Sa.p2 (h:Sa E F0 X w0 w q bs ns ro) {g:Nat} (hg:w.heap.size=g) (v0 v1:Value) (t:TypeId):Hid (Sa E F0 X w0 (w.alloc (.cells #[v0,v1] t)) q ((g,true,.c2 v0 v1 t)::bs) ns ro):=h.elim fun _ h=>h.push hg (heap_alloc_new _ _)
theorem Sa.p9 (h:Sa E F0 X w0 w q bs ns ro) {g:Nat} (hg:w.heap.size=g) (v0 v1 v2 v3 v4 v5 v6 v7 v8:Value) (t:TypeId):Hid (Sa E F0 X w0 (w.alloc (.cells #[v0,v1,v2,v3,v4,v5,v6,v7,v8] t)) q ((g,true,.c9 v0 v1 v2 v3 v4 v5 v6 v7 v8 t)::bs) ns ro):=h.elim fun _ h=>h.push hg (heap_alloc_new _ _)
theorem Sa.frz9 (h:Sa E F0 X w0 w q bs ns ro) (i:Nat) {g:Nat} {o:Bool} {v0 v1 v2 v3 v4 v5 v6 v7 v8:Value} {t:TypeId} (hb:nth bs i=some (g,o,.c9 v0 v1 v2 v3 v4 v5 v6 v7 v8 t)) (j:Nat):w.frozen? ⟨g,j,none⟩=false:=h.elim fun _ h=>frozen_of_row w g j _ _ (h.bx _ (ab1 hb)).2.1
theorem Sa.fin_mb {T:Res Mb} {fn:Func} {r:Tmp} {tmps:Array Value} {g gm:Nat} {f:Int} {n:Nd} {a:Option Addr} {c:Nat} {z0 z1 z2 z3 z4 z5 z6 z7 z8:Value} (h:Sa E F0 X w0 w q bs ns ro) (i i2 j:Nat) (hr:fn.results= #[.cell r 263]) (hr2:tmps.getD r undef= .pointer (some ⟨g,0,none⟩))
  (hb:nth bs i=some (g,true,.c9 z0 z1 z2 z3 z4 z5 z6 z7 z8 263)) (hm:nth bs i2=some (gm,true,.c9 (.int .i64 f) (.bool false) (.string ⟨#[]⟩) (.int .i64 0) (.string ⟨#[]⟩) (.slice none 0 0) (.int .i64 0) (.int .i64 0) (.bool false) 263)) (hii:i≠i2) (hn:nth ns j=some (n,a,c)) (ht:T= .ok ⟨f,false,⟨#[]⟩,n,false⟩ q):
  bodyPost Tryz.prog fn (Ans E F0 X w0 T fun m v w'=>MbV E F0 w' m v) Exit.ret { tmps:=tmps,defers:= [] } ((((((((((((((w.setCell ⟨gm,3,none⟩ (.int .i64 n.kind)).setCell ⟨gm,4,none⟩ (.string n.text)).setCell ⟨gm,5,none⟩ (.slice a n.kids.length c)).setCell ⟨gm,6,none⟩ (.int .i64 n.from')).setCell ⟨gm,7,none⟩ (.int .i64 n.till)).setCell ⟨g,0,none⟩ (.int .i64 f)).setCell ⟨g,1,none⟩ (.bool false)).setCell ⟨g,2,none⟩ (.string ⟨#[]⟩)).setCell ⟨g,3,none⟩ (.int .i64 n.kind)).setCell ⟨g,4,none⟩ (.string n.text)).setCell ⟨g,5,none⟩ (.slice a n.kids.length c)).setCell ⟨g,6,none⟩ (.int .i64 n.from')).setCell ⟨g,7,none⟩ (.int .i64 n.till)).setCell ⟨g,8,none⟩ (.bool false)):=by
 obtain⟨F,h⟩:=h
 have hat:w.heap[gm]? =some (.cells #[.int .i64 f,.bool false,.string ⟨#[]⟩,.int .i64 0,.string ⟨#[]⟩,.slice none 0 0,.int .i64 0,.int .i64 0,.bool false] 263 (0,0)):=(h.bx _ (ab1 hm)).2.1
 have hgg:g≠gm:=aP5 ag4 h.nd hb hm hii
 have e0:=heap_setCell_same _ gm 3 _ _ (.int .i64 n.kind) hat
 have e1:=heap_setCell_same _ gm 4 _ _ (.string n.text) e0
 have e2:=heap_setCell_same _ gm 5 _ _ (.slice a n.kids.length c) e1
 have e3:=heap_setCell_same _ gm 6 _ _ (.int .i64 n.from') e2
 have e4:=heap_setCell_same _ gm 7 _ _ (.int .i64 n.till) e3
 have e9:(((((w.setCell ⟨gm,3,none⟩ (.int .i64 n.kind)).setCell ⟨gm,4,none⟩ (.string n.text)).setCell ⟨gm,5,none⟩ (.slice a n.kids.length c)).setCell ⟨gm,6,none⟩ (.int .i64 n.from')).setCell ⟨gm,7,none⟩ (.int .i64 n.till)).heap[gm]? =some (.cells #[.int .i64 f,.bool false,.string ⟨#[]⟩,.int .i64 n.kind,.string n.text,.slice a n.kids.length c,.int .i64 n.from',.int .i64 n.till,.bool false] 263 (0,0)):=e4.trans (congrArg (fun c=>some (Obj.cells c 263 (0,0))) (by simp))
 have h1:=h.setW (b':= .c9 (.int .i64 f) (.bool false) (.string ⟨#[]⟩) (.int .i64 n.kind) (.string n.text) (.slice a n.kids.length c) (.int .i64 n.from') (.int .i64 n.till) (.bool false) 263) i2 hm (Only.setCell (X:=fun k=>k=gm) (Only.setCell (X:=fun k=>k=gm) (Only.setCell (X:=fun k=>k=gm) (Only.setCell (X:=fun k=>k=gm) (Only.setCell (X:=fun k=>k=gm) (Only.refl _ _) (p:=⟨gm,3,none⟩) (.inl rfl) _) (p:=⟨gm,4,none⟩) (.inl rfl) _) (p:=⟨gm,5,none⟩) (.inl rfl) _) (p:=⟨gm,6,none⟩) (.inl rfl) _) (p:=⟨gm,7,none⟩) (.inl rfl) _) e9
 have hb2:nth (ae4 bs i2 (gm,true,.c9 (.int .i64 f) (.bool false) (.string ⟨#[]⟩) (.int .i64 n.kind) (.string n.text) (.slice a n.kids.length c) (.int .i64 n.from') (.int .i64 n.till) (.bool false) 263)) i=some (g,true,.c9 z0 z1 z2 z3 z4 z5 z6 z7 z8 263):=aP6 hii hb
 generalize (((((w.setCell ⟨gm,3,none⟩ (.int .i64 n.kind)).setCell ⟨gm,4,none⟩ (.string n.text)).setCell ⟨gm,5,none⟩ (.slice a n.kids.length c)).setCell ⟨gm,6,none⟩ (.int .i64 n.from')).setCell ⟨gm,7,none⟩ (.int .i64 n.till))=W at*
 have hbt:W.heap[g]? =some (.cells #[z0,z1,z2,z3,z4,z5,z6,z7,z8] 263 (0,0)):=(h1.bx _ (ab1 hb2)).2.1
 have d0:=heap_setCell_same _ g 0 _ _ (.int .i64 f) hbt
 have d1:=heap_setCell_same _ g 1 _ _ (.bool false) d0
 have d2:=heap_setCell_same _ g 2 _ _ (.string ⟨#[]⟩) d1
 have d3:=heap_setCell_same _ g 3 _ _ (.int .i64 n.kind) d2
 have d4:=heap_setCell_same _ g 4 _ _ (.string n.text) d3
 have d5:=heap_setCell_same _ g 5 _ _ (.slice a n.kids.length c) d4
 have d6:=heap_setCell_same _ g 6 _ _ (.int .i64 n.from') d5
 have d7:=heap_setCell_same _ g 7 _ _ (.int .i64 n.till) d6
 have d8:=heap_setCell_same _ g 8 _ _ (.bool false) d7
 have d9:(((((((((W.setCell ⟨g,0,none⟩ (.int .i64 f)).setCell ⟨g,1,none⟩ (.bool false)).setCell ⟨g,2,none⟩ (.string ⟨#[]⟩)).setCell ⟨g,3,none⟩ (.int .i64 n.kind)).setCell ⟨g,4,none⟩ (.string n.text)).setCell ⟨g,5,none⟩ (.slice a n.kids.length c)).setCell ⟨g,6,none⟩ (.int .i64 n.from')).setCell ⟨g,7,none⟩ (.int .i64 n.till)).setCell ⟨g,8,none⟩ (.bool false)).heap[g]? =some (.cells #[.int .i64 f,.bool false,.string ⟨#[]⟩,.int .i64 n.kind,.string n.text,.slice a n.kids.length c,.int .i64 n.from',.int .i64 n.till,.bool false] 263 (0,0)):=d8.trans (congrArg (fun c=>some (Obj.cells c 263 (0,0))) (by simp))
 have h2:=h1.setW (b':= .c9 (.int .i64 f) (.bool false) (.string ⟨#[]⟩) (.int .i64 n.kind) (.string n.text) (.slice a n.kids.length c) (.int .i64 n.from') (.int .i64 n.till) (.bool false) 263) i hb2 (Only.setCell (X:=fun k=>k=g) (Only.setCell (X:=fun k=>k=g) (Only.setCell (X:=fun k=>k=g) (Only.setCell (X:=fun k=>k=g) (Only.setCell (X:=fun k=>k=g) (Only.setCell (X:=fun k=>k=g) (Only.setCell (X:=fun k=>k=g) (Only.setCell (X:=fun k=>k=g) (Only.setCell (X:=fun k=>k=g) (Only.refl _ _) (p:=⟨g,0,none⟩) (.inl rfl) _) (p:=⟨g,1,none⟩) (.inl rfl) _) (p:=⟨g,2,none⟩) (.inl rfl) _) (p:=⟨g,3,none⟩) (.inl rfl) _) (p:=⟨g,4,none⟩) (.inl rfl) _) (p:=⟨g,5,none⟩) (.inl rfl) _) (p:=⟨g,6,none⟩) (.inl rfl) _) (p:=⟨g,7,none⟩) (.inl rfl) _) (p:=⟨g,8,none⟩) (.inl rfl) _) d9
 exact bodyPost_ret (results_cell_row hr _ _ g 263 _ (0,0) _ hr2 d9 Tryz.underlying263 rfl (by kernel_rfl)) rfl (h2.ans ht ⟨a,c,rfl,(h2.ni j hn).weak h2.le⟩)
theorem Sa.stepM {β:Type} {x:PM Mb} {k:Mb→PM β} {T:Res β} {K:Ending→World→Prop} {f:FuncId} {args:Array Value} (h:Sa E F0 X w0 w q bs ns ro) (hT:Hid ((x>>=k) q=T)) (hn:Hid (T≠ .out))
  (hc: ∀F,Sb E F0 X w0 F w q bs ns ro→x q≠ .out→Calls Tryz.prog f args w (Ans E F X0 w (x q) fun m v w'=>MbV E F w' m v))
  (hbad: ∀c i w1,Hid (T= .bad c i∧PB E.b X w0 w1)→K (.panicked (flt c i)) w1)
  (hok: ∀n a c q1 w1 f st kd bl,Hid (k ⟨f,st,kd,n,bl⟩ q1=T)→Hid (Sa E F0 X w0 w1 q1 bs ((n,a,c)::ns) ro)→K (.returned (.agg #[.int .i64 f,.bool st,.string kd,.int .i64 n.kind,.string n.text,.slice a n.kids.length c,.int .i64 n.from',.int .i64 n.till,.bool bl])) w1):Calls Tryz.prog f args w K:=
 h.step (A:=fun F m v w'=>MbV E F w' m v) hT hn hc hbad fun F m q1 v w1 e _ h1 h2=>by
  obtain⟨f,st,kd,n,bl⟩:=m
  obtain⟨a,c,rfl,e⟩:=e
  exact hok n a c q1 w1 f st kd bl h1 (h2.node e).a
end
def mbW:List ByteArray:= [⟨#[103,101,116]⟩,⟨#[115,101,116]⟩]
end
end Go.Proofs.YtnobjeelihkjmaaGreatDoor
