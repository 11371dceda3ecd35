/- Steps (Va). Conditions: as stated. -/
import Derived.Test.YtcgbkjhoifhnnaaGreatDoorZe22
set_option maxHeartbeats 4000000
set_option maxRecDepth 100000
namespace Go.Proofs.YtcgbkjhoifhnnaaGreatDoor
section
open Go.RowKit
attribute [local go_sem] ab4 ab5 ab6 ab7 ab8 ab9
attribute [local go_sem ↓] Go.wp_at_zero Go.wp_at_succ
section
variable {E:PE} {F0 F X:Nat→Prop} {w0 w W:World} {q:Ps} {bs:List Box} {ns:List Kd} {ro:Option (Value × List Kd)}
theorem Sb.setW (h:Sb E F0 X w0 F w q bs ns ro) (i:Nat) {g:Nat} {b b':Bx} (hb:nth bs i=some (g,true,b)) (ho:Only (fun k=>k=g) w W) (hat:BxAt W g b'):Sb E F0 X w0 F W q (ac8 bs i (g,true,b')) ns ro:=by
 have hbx:=h.bx _ (aa4 hb)
 have hF:F g:=hbx.1
 have hx:=hbx.2.2 rfl
 have hm:Only (Mine F X w0) w W:=ho.mono fun k hk=>by subst hk;exact⟨hF,hx⟩
 refine⟨h.s.only (hm.mono fun _ h=>h.1),h.p.adv h.s hm,h.le,h.f0,fun z hz=> ?_,an3 h.nd hb,fun x hx=>(h.n x hx).only (hm.mono fun _ h=>h.1) h.s.lt h.s.notF,fun v l e=> ?_⟩
 ·rcases ah0 ah3 h.nd hb hz with rfl|⟨h1,h2⟩
  ·exact⟨hF,hat,fun _=>hx⟩
  ·obtain⟨a1,a2,a3⟩:=h.bx z h1
   exact⟨a1,a2.same (ho.block _ a2.lt fun e=>h2 e.symm),a3⟩
 ·obtain⟨base,a1,a2,a3,a4⟩:=h.r v l e
  refine⟨base,a1,Nat.le_trans a2 ho.size,a3.only h.s (ho.mono fun k hk=>by rw [show k=g from hk];exact⟨hF,a4 (g,true,b) (aa4 hb)⟩),fun z hz=> ?_⟩
  rcases ah0 ah3 h.nd hb hz with rfl|⟨h1,h2⟩
  ·exact a4 (g,true,b) (aa4 hb)
  ·exact a4 z h1
theorem Sa.dir3 (h:Sa E F0 X w0 w q bs ns ro) (i:Nat) {g:Nat} {n:Nd} {a:Option Addr} {c:Nat} (hb:nth bs i=some (g,true,.nd n a c)) (t:ByteArray):
  ∃W,((w.setCell ⟨g,0,none⟩ (.int .i64 78)).setCell ⟨g,1,none⟩ (.string t)).setCell ⟨g,2,none⟩ (.slice none 0 0)=W∧Hid (Sa E F0 X w0 W q (ac8 bs i (g,true,.nd (.mk 78 t [] n.from' n.till) none 0)) ((.mk 78 t [] n.from' n.till,none,0)::ns) ro):=by
 obtain⟨F,h⟩:=h
 refine⟨_,rfl,F,?_⟩
 have hat:w.heap[g]? =some (.cells #[.int .i64 n.kind,.string n.text,.slice a n.kids.length c,.int .i64 n.from',.int .i64 n.till] 26 (0,0)):=(h.bx _ (aa4 hb)).2.1
 have e0:=heap_setCell_same _ g 0 _ _ (.int .i64 78) hat
 have e1:=heap_setCell_same _ g 1 _ _ (.string t) e0
 have e2:=heap_setCell_same _ g 2 _ _ (.slice none 0 0) e1
 have e3:(((w.setCell ⟨g,0,none⟩ (.int .i64 78)).setCell ⟨g,1,none⟩ (.string t)).setCell ⟨g,2,none⟩ (.slice none 0 0)).heap[g]? =some (.cells #[.int .i64 78,.string t,.slice none 0 0,.int .i64 n.from',.int .i64 n.till] 26 (0,0)):=by simpa using e2
 refine(h.setW (b':= .nd (.mk 78 t [] n.from' n.till) none 0) i hb (Only.setCell (X:=fun k=>k=g) (Only.setCell (X:=fun k=>k=g) (Only.setCell (X:=fun k=>k=g) (Only.refl _ _) (p:=⟨g,0,none⟩) (.inl rfl) _) (p:=⟨g,1,none⟩) (.inl rfl) _) (p:=⟨g,2,none⟩) (.inl rfl) _) e3).node ?_
 exact⟨none,0,rfl,Nat.le_refl _,at7 _ _ _ _⟩
end
def StQ (E:PE) (R:(x:Fn)→PM x.Out) (top:Bool) (e:Nat) (f:Nat) (F:Nat→Prop) (w:World) (gp gu:Nat) (T:Res (List Nd)) (k:Nat) (d u:Value) (wr:World):Prop:=
 ∃(l:List Kd) (q:Ps) (dir:Bool),d= .bool dir∧l.length+k≤f∧Hid (dirL E.s R top e k dir (l.map (·.1)) q=T)∧Hid (Sa E F X0 w wr q [(gp,true,.p E.b),(gu,true,.c1 (.bool top) 4)] [] (some (u,l)))
theorem S.statementsD {E:PE} {R:(x:Fn)→PM x.Out} (hR:Env E R) {F:Nat→Prop} {w:World} {p:Ps} (f:Nat) (hf:f≤1073741824) (dir top:Bool) (e:Nat) {k0:FuncId} (hend:ba7 k0 e) (h:St E F w p) (hne:ao4 E.s f R dir top e p≠ .out):
  Calls Tryz.prog 29 #[.pointer (some ⟨E.b,0,none⟩),.bool dir,.bool top,.func (Fn.func k0) #[] #[]] w (Ans E F X0 w (ao4 E.s f R dir top e p) fun ks v w'=>KsIn E F w' ks v):=by
 obtain⟨T,hT⟩: ∃T,ao4 E.s f R dir top e p=T:=⟨_,rfl⟩
 rw [hT] at hne⊢
 unfold ao4 at hT
 have HT:=hJ hT
 have HN:=hJ hne
 have HA:=Sa.start0 (X:=X0) h
 clear h hne hT
 go_enter Tryz.func29,Tryz.ntmps29
 go_wp2_with fail
 replace HA:=HA.out.pP (g:=w.heap.size) rfl
 replace HA:=HA.out.p1 (g:=(w.heap.size+1)) (by simp) (.bool top) 4
 replace HA:=HA.out.row0
 go_loopg [1,9] f (fun k d u wr=>StQ E R top e f F w w.heap.size (w.heap.size+1) T k d u wr)
 case atStart=>exact⟨[],_,dir,rfl,by simp,HT,HA.out.pick [1,0] [] (by decide)⟩
 case round=>
  clear HT HA
  obtain⟨lk,q,dr,rfl,hlen,HT,HA⟩:=hrel
  cases gk with
  |zero=>exact absurd HT.out.symm HN.out
  |succ k=>
   unfold dirL at HT
   obtain⟨sa,sc,rfl⟩:=HA.out.rowform
   obtain⟨zpb,zub,-⟩:=HA.out.fs
   go_wp2_with fail
   refine HA.out.stepV HT HN (fun _ h e=>P.peek hR.ok 2 h.s e) ?_ ?_
   ·intro _ _ _ H;go_wp2_with fail;exact⟨rfl,Ans.badh H⟩
   clear zpb zub HT HA
   intro t q1 w1 HT HA
   obtain⟨zpb,zub,-⟩:=HA.out.fs
   have hent:=fun W=>(hend t W).1
   go_wp2_with fail
   replace HA:=HA.out.pT (g:=w1.heap.size) rfl t
   refine HA.out.stepQ (fun _ h=>(hend t _).2) ?_
   clear zpb zub HA
   intro w2 HA
   obtain⟨zt,zpb,zub,-⟩:=HA.out.fs
   cases he:endB e t with
   |true=>
    replace HT:=hpos HT (by exact he)
    go_wp2_with fail
    exact HA.out.fin_ks rfl rfl HT.out.symm
   |false=>
    replace HT:=hneg HT (by rw [he];decide)
    go_wp2_with fail
    replace HA:=HA.out.pZ (g:=w2.heap.size) rfl
    refine HA.out.deeper hR.ok t.from' HT HN (fun _=>by kernel_rfl) (C.statements1 hR t top) (.tail _ (.tail _ (.tail _ (.head _)))) [2,1,3,0] ⟨⟨_,_,rfl,.inl rfl⟩,⟨_,_,rfl,.inl rfl⟩,⟨_,_,rfl,.inl rfl⟩,⟨_,_,rfl,.inr ⟨rfl,_,_,_,_,_,_,_,rfl⟩⟩,trivial⟩ (by decide) 0 rfl ?_ ?_
    ·intro _ _ _ H;go_wp2_with fail;exact⟨rfl,Ans.badh H⟩
    clear zt zpb zub HT HA
    intro n an cn q3 w3 HT HA
    dsimp only [ac8] at HA
    obtain⟨zn,zt,zpb,zub,-⟩:=HA.out.fs
    have yn:=HA.out.fw 0 rfl
    cases dr with
    |true=>
     by_cases hk57:n.kind=57
     ·have hk57w:=kt hk57
      have e57:decide (n.kind=57)=true:=decide_eq_true hk57
      have hk57':=hJ hk57
      clear hk57
      replace HT:=hpos HT (by rw [e57];rfl)
      cases hkk:n.kids with
      |nil=>
       rw [hkk] at HT
       exact absurd HT.out.symm HN.out
      |cons x xs=>
       have hl0:0<n.kids.length:=by rw [hkk];simp
       have hx0:n.kids[0]=x:=by simp [hkk]
       rw [hkk] at HT
       have hk2:Hid ((if x.kind=4 then dirL E.s R top e k true (lk.map (·.1)++ [.mk 78 x.text [] n.from' n.till]) else dirL E.s R top e k false (lk.map (·.1)++ [n])) _=T):=HT
       replace HT:=hk2
       clear hk2
       obtain⟨g0,off0,b0,c0,ha0,hg0,hc0,hc1,_,_,_,_⟩:=HA.out.kid 0 rfl hl0
       rw [hx0] at hc0 hc1
       rw [show off0+0*5=off0 by omega] at hc0 hc1
       clear hx0
       have hl0':(0:Int)<(n.kids.length:Int):=by omega
       have HKK:=hJ hkk
       clear hkk
       obtain⟨xk,hxk⟩: ∃xk,x.kind=xk:=⟨_,rfl⟩
       rw [hxk] at hc0 HT
       clear hxk
       by_cases hk4:xk=4
       ·have hk4w:=kt hk4
        replace HT:=hpos HT (by exact hk4)
        subst hk4
        go_upto_region 9 with fail
        go_region
        clear zn zt zpb zub yn
        clear ha0 hc0 hc1
        obtain⟨W3,e3,HA⟩:=HA.out.dir3 0 rfl x.text
        rw [e3]
        clear e3
        dsimp only [ac8] at HA
        replace HA:=HA.out.drew
        generalize World.drew W3=w9 at*
        obtain⟨zn,zt,zpb,zub,-⟩:=HA.out.fs
        have yn:=HA.out.fw 0 rfl
        go_upto_region 10 with fail
        go_wp2_with (at_builtin;refine at5 (by rfl) _ _ _ (by rfl) (by kernel_rfl) ak3 HA.out 0 rfl (by rfl) (g:=w9.heap.size) rfl (by rfl) rfl (by omega) ?_;clear zn zt zpb zub yn HA;intro rr rc w4 HA)
        go_roundg k
        case measure=>exact Nat.lt_succ_self k
        case rel=>exact⟨lk++ [(Nd.mk 78 x.text [] n.from' n.till,none,0)],_,true,rfl,by simp;omega,by rw [List.map_append];exact HT,HA.out.pick [2,3] [] (by decide)⟩
       ·have hk4w:=kf hk4
        replace HT:=hneg HT (by exact hk4)
        have hk4':=hJ hk4
        clear hk4
        go_upto_region 10 with fail
        clear ha0
        go_wp2_with (at_builtin;refine at5 (by rfl) _ _ _ (by rfl) (by kernel_rfl) ak3 HA.out 0 rfl (by rfl) (g:=w3.heap.size) rfl (by rfl) rfl (by omega) ?_;clear zn zt zpb zub yn HA;intro rr rc w4 HA)
        go_roundg k
        case measure=>exact Nat.lt_succ_self k
        case rel=>exact⟨lk++ [(n,an,cn)],_,false,rfl,by simp;omega,by rw [List.map_append];exact HT,HA.out.pick [2,3] [] (by decide)⟩
     ·have hk57w:=kf hk57
      have e57:decide (n.kind=57)=false:=decide_eq_false hk57
      have hk57':=hJ hk57
      clear hk57
      replace HT:=hneg HT (by rw [e57];decide)
      go_upto_region 10 with fail
      go_wp2_with (at_builtin;refine at5 (by rfl) _ _ _ (by rfl) (by kernel_rfl) ak3 HA.out 0 rfl (by rfl) (g:=w3.heap.size) rfl (by rfl) rfl (by omega) ?_;clear zn zt zpb zub yn HA;intro rr rc w4 HA)
      go_roundg k
      case measure=>exact Nat.lt_succ_self k
      case rel=>exact⟨lk++ [(n,an,cn)],_,false,rfl,by simp;omega,by rw [List.map_append];exact HT,HA.out.pick [2,3] [] (by decide)⟩
    |false=>
     replace HT:=hneg HT (by rw [Bool.false_and];decide)
     go_upto_region 10 with fail
     go_wp2_with (at_builtin;refine at5 (by rfl) _ _ _ (by rfl) (by kernel_rfl) ak3 HA.out 0 rfl (by rfl) (g:=w3.heap.size) rfl (by rfl) rfl (by omega) ?_;clear zn zt zpb zub yn HA;intro rr rc w4 HA)
     go_roundg k
     case measure=>exact Nat.lt_succ_self k
     case rel=>exact⟨lk++ [(n,an,cn)],_,false,rfl,by simp;omega,by rw [List.map_append];exact HT,HA.out.pick [2,3] [] (by decide)⟩
end
end Go.Proofs.YtcgbkjhoifhnnaaGreatDoor
