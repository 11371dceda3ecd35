/- Steps (Va Vb). Conditions: as stated. -/
import Derived.Test.YtnahajcjpmbflaaGreatDoorPn22
set_option maxHeartbeats 8000000
set_option maxRecDepth 100000
namespace Go.Proofs.YtnahajcjpmbflaaGreatDoor
section
open Go.RowKit
attribute [local go_sem] fld_tk0 fld_tk1 fld_tk2 fld_tk3 fld_tk4 mk_func
attribute [local go_sem ↓] Go.wp_at_zero Go.wp_at_succ
section
variable {E:PE} {F0 F X:Nat→Prop} {w0 w W:World} {q:Ps} {bs:List Box} {ns:List Kd} {ro:Option (Value × List Kd)}
theorem Sb.setW (h:Sb E F0 X w0 F w q bs ns ro) (i:Nat) {g:Nat} {b b':Bx} (hb:nth bs i=some (g,true,b)) (ho:Only (fun k=>k=g) w W) (hat:BxAt W g b'):Sb E F0 X w0 F W q (setAt bs i (g,true,b')) ns ro:=by
 have hbx:=h.bx _ (nth_mem hb)
 have hF:F g:=hbx.1
 have hx:=hbx.2.2 rfl
 have hm:Only (Mine F X w0) w W:=ho.mono fun k hk=>by subst hk;exact⟨hF,hx⟩
 refine⟨h.s.only (hm.mono fun _ h=>h.1),h.p.adv h.s hm,h.le,h.f0,fun z hz=> ?_,setAt_pair h.nd hb,fun x hx=>(h.n x hx).only (hm.mono fun _ h=>h.1) h.s.lt h.s.notF,fun v l e=> ?_⟩
 ·rcases setAt_mem bne_symm h.nd hb hz with rfl|⟨h1,h2⟩
  ·exact⟨hF,hat,fun _=>hx⟩
  ·obtain⟨a1,a2,a3⟩:=h.bx z h1
   exact⟨a1,a2.same (ho.block _ a2.lt fun e=>h2 e.symm),a3⟩
 ·obtain⟨base,a1,a2,a3,a4⟩:=h.r v l e
  refine⟨base,a1,Nat.le_trans a2 ho.size,a3.only h.s (ho.mono fun k hk=>by rw [show k=g from hk];exact⟨hF,a4 (g,true,b) (nth_mem hb)⟩),fun z hz=> ?_⟩
  rcases setAt_mem bne_symm h.nd hb hz with rfl|⟨h1,h2⟩
  ·exact a4 (g,true,b) (nth_mem hb)
  ·exact a4 z h1
theorem Sa.dir3 (h:Sa E F0 X w0 w q bs ns ro) (i:Nat) {g:Nat} {n:Nd} {a:Option Addr} {c:Nat} (hb:nth bs i=some (g,true,.nd n a c)) (t:ByteArray):
  ∃W,((w.setCell ⟨g,0,none⟩ (.int .i64 78)).setCell ⟨g,1,none⟩ (.string t)).setCell ⟨g,2,none⟩ (.slice none 0 0)=W∧Hid (Sa E F0 X w0 W q (setAt bs i (g,true,.nd (.mk 78 t [] n.from' n.till) none 0)) ((.mk 78 t [] n.from' n.till,none,0)::ns) ro):=by
 obtain⟨F,h⟩:=h
 refine⟨_,rfl,F,?_⟩
 have hat:w.heap[g]? =some (.cells #[.int .i64 n.kind,.string n.text,.slice a n.kids.length c,.int .i64 n.from',.int .i64 n.till] 31 (0,0)):=(h.bx _ (nth_mem hb)).2.1
 have e0:=heap_setCell_same _ g 0 _ _ (.int .i64 78) hat
 have e1:=heap_setCell_same _ g 1 _ _ (.string t) e0
 have e2:=heap_setCell_same _ g 2 _ _ (.slice none 0 0) e1
 have e3:(((w.setCell ⟨g,0,none⟩ (.int .i64 78)).setCell ⟨g,1,none⟩ (.string t)).setCell ⟨g,2,none⟩ (.slice none 0 0)).heap[g]? =some (.cells #[.int .i64 78,.string t,.slice none 0 0,.int .i64 n.from',.int .i64 n.till] 31 (0,0)):=by simpa using e2
 refine(h.setW (b':= .nd (.mk 78 t [] n.from' n.till) none 0) i hb (Only.setCell (X:=fun k=>k=g) (Only.setCell (X:=fun k=>k=g) (Only.setCell (X:=fun k=>k=g) (Only.refl _ _) (p:=⟨g,0,none⟩) (.inl rfl) _) (p:=⟨g,1,none⟩) (.inl rfl) _) (p:=⟨g,2,none⟩) (.inl rfl) _) e3).node ?_
 exact⟨none,0,rfl,Nat.le_refl _,RowS_nil _ _ _ _⟩
end
def StQ (E:PE) (R:(x:Fn)→PM x.Out) (top:Bool) (e:Nat) (f:Nat) (F:Nat→Prop) (w:World) (gp gu:Nat) (T:Res (List Nd)) (k:Nat) (d u:Value) (wr:World):Prop:=
 ∃(l:List Kd) (q:Ps) (dir:Bool),d= .bool dir∧l.length+k≤f∧Hid (dirL E.s R top e k dir (l.map (·.1)) q=T)∧Hid (Sa E F X0 w wr q [(gp,true,.p E.b),(gu,true,.c1 (.bool top) 4)] [] (some (u,l)))
theorem S.statementsD {E:PE} {R:(x:Fn)→PM x.Out} (hR:Env E R) {F:Nat→Prop} {w:World} {p:Ps} (f:Nat) (hf:f≤1073741824) (dir top:Bool) (e:Nat) {k0:FuncId} (hend:EndOk k0 e) (h:St E F w p) (hne:statementsQ E.s f R dir top e p≠ .out):
  Calls Tryz.prog 31 #[.pointer (some ⟨E.b,0,none⟩),.bool dir,.bool top,.func (Fn.func k0) #[] #[]] w (Ans E F X0 w (statementsQ E.s f R dir top e p) fun ks v w'=>KsIn E F w' ks v):=by
 obtain⟨T,hT⟩: ∃T,statementsQ E.s f R dir top e p=T:=⟨_,rfl⟩
 rw [hT] at hne⊢
 unfold statementsQ at hT
 have HT:=Lib.hid hT
 have HN:=Lib.hid hne
 have HA:=Sa.start0 (X:=X0) h
 clear h hne hT
 go_enter Tryz.func31,Tryz.ntmps31
 go_wp2_with fail
 replace HA:=HA.out.pP (g:=w.heap.size) rfl
 replace HA:=HA.out.p1 (g:=(w.heap.size+1)) (by simp) (.bool top) 4
 replace HA:=HA.out.row0
 go_loopg [1,9] f (fun k d u wr=>StQ E R top e f F w w.heap.size (w.heap.size+1) T k d u wr)
 case atStart=>exact⟨[],_,dir,rfl,by simp,HT,HA.out.pick [1,0] [] (by decide)⟩
 case round=>
  clear HT HA
  obtain⟨lk,q,dr,rfl,hlen,HT,HA⟩:=hrel
  cases gk with
  |zero=>exact absurd HT.out.symm HN.out
  |succ k=>
   unfold dirL at HT
   obtain⟨sa,sc,rfl⟩:=HA.out.rowform
   obtain⟨zpb,zub,-⟩:=HA.out.fs
   go_wp2_with fail
   refine HA.out.stepV HT HN (fun _ h e=>P.peek hR.ok 2 h.s e) ?_ ?_
   ·intro _ _ _ H;go_wp2_with fail;exact⟨rfl,Ans.badh H⟩
   clear zpb zub HT HA
   intro t q1 w1 HT HA
   obtain⟨zpb,zub,-⟩:=HA.out.fs
   have hent:=fun W=>(hend t W).1
   go_wp2_with fail
   replace HA:=HA.out.pT (g:=w1.heap.size) rfl t
   refine HA.out.stepQ (fun _ h=>(hend t _).2) ?_
   clear zpb zub HA
   intro w2 HA
   obtain⟨zt,zpb,zub,-⟩:=HA.out.fs
   cases he:endB e t with
   |true=>
    replace HT:=hpos HT (by exact he)
    go_wp2_with fail
    exact HA.out.fin_ks rfl rfl HT.out.symm
   |false=>
    replace HT:=hneg HT (by rw [he];decide)
    go_wp2_with fail
    replace HA:=HA.out.pZ (g:=w2.heap.size) rfl
    refine HA.out.deeper hR.ok t.from' HT HN (fun _=>by kernel_rfl) (C.statements1 hR t top) (.tail _ (.tail _ (.tail _ (.head _)))) [2,1,3,0] ⟨⟨_,_,rfl,.inl rfl⟩,⟨_,_,rfl,.inl rfl⟩,⟨_,_,rfl,.inl rfl⟩,⟨_,_,rfl,.inr ⟨rfl,_,_,_,_,_,_,_,rfl⟩⟩,trivial⟩ (by decide) 0 rfl ?_ ?_
    ·intro _ _ _ H;go_wp2_with fail;exact⟨rfl,Ans.badh H⟩
    clear zt zpb zub HT HA
    intro n an cn q3 w3 HT HA
    dsimp only [setAt] at HA
    obtain⟨zn,zt,zpb,zub,-⟩:=HA.out.fs
    have yn:=HA.out.fw 0 rfl
    cases dr with
    |true=>
     by_cases hk57:n.kind=57
     ·have hk57w:=kt hk57
      have e57:decide (n.kind=57)=true:=decide_eq_true hk57
      have hk57':=Lib.hid hk57
      clear hk57
      replace HT:=hpos HT (by rw [e57];rfl)
      cases hkk:n.kids with
      |nil=>
       rw [hkk] at HT
       exact absurd HT.out.symm HN.out
      |cons x xs=>
       have hl0:0<n.kids.length:=by rw [hkk];simp
       have hx0:n.kids[0]=x:=by simp [hkk]
       rw [hkk] at HT
       have hk2:Hid ((if x.kind=4 then dirL E.s R top e k true (lk.map (·.1)++ [.mk 78 x.text [] n.from' n.till]) else dirL E.s R top e k false (lk.map (·.1)++ [n])) _=T):=HT
       replace HT:=hk2
       clear hk2
       obtain⟨g0,off0,b0,c0,ha0,hg0,hc0,hc1,_,_,_,_⟩:=HA.out.kid 0 rfl hl0
       rw [hx0] at hc0 hc1
       rw [show off0+0*5=off0 by omega] at hc0 hc1
       clear hx0
       have hl0':(0:Int)<(n.kids.length:Int):=by omega
       have HKK:=Lib.hid hkk
       clear hkk
       obtain⟨xk,hxk⟩: ∃xk,x.kind=xk:=⟨_,rfl⟩
       rw [hxk] at hc0 HT
       clear hxk
       by_cases hk4:xk=4
       ·have hk4w:=kt hk4
        replace HT:=hpos HT (by exact hk4)
        subst hk4
        go_upto_region 9 with fail
        go_region
        clear zn zt zpb zub yn
        clear ha0 hc0 hc1
        obtain⟨W3,e3,HA⟩:=HA.out.dir3 0 rfl x.text
        rw [e3]
        clear e3
        dsimp only [setAt] at HA
        replace HA:=HA.out.drew
        generalize World.drew W3=w9 at*
        obtain⟨zn,zt,zpb,zub,-⟩:=HA.out.fs
        have yn:=HA.out.fw 0 rfl
        go_upto_region 10 with fail
        go_wp2_with (at_builtin;refine wp_app (by rfl) _ _ _ (by rfl) (by kernel_rfl) nd_info HA.out 0 rfl (by rfl) (g:=w9.heap.size) rfl (by rfl) rfl (by omega) ?_;clear zn zt zpb zub yn HA;intro rr rc w4 HA)
        go_roundg k
        case measure=>exact Nat.lt_succ_self k
        case rel=>exact⟨lk++ [(Nd.mk 78 x.text [] n.from' n.till,none,0)],_,true,rfl,by simp;omega,by rw [List.map_append];exact HT,HA.out.pick [2,3] [] (by decide)⟩
       ·have hk4w:=kf hk4
        replace HT:=hneg HT (by exact hk4)
        have hk4':=Lib.hid hk4
        clear hk4
        go_upto_region 10 with fail
        clear ha0
        go_wp2_with (at_builtin;refine wp_app (by rfl) _ _ _ (by rfl) (by kernel_rfl) nd_info HA.out 0 rfl (by rfl) (g:=w3.heap.size) rfl (by rfl) rfl (by omega) ?_;clear zn zt zpb zub yn HA;intro rr rc w4 HA)
        go_roundg k
        case measure=>exact Nat.lt_succ_self k
        case rel=>exact⟨lk++ [(n,an,cn)],_,false,rfl,by simp;omega,by rw [List.map_append];exact HT,HA.out.pick [2,3] [] (by decide)⟩
     ·have hk57w:=kf hk57
      have e57:decide (n.kind=57)=false:=decide_eq_false hk57
      have hk57':=Lib.hid hk57
      clear hk57
      replace HT:=hneg HT (by rw [e57];decide)
      go_upto_region 10 with fail
      go_wp2_with (at_builtin;refine wp_app (by rfl) _ _ _ (by rfl) (by kernel_rfl) nd_info HA.out 0 rfl (by rfl) (g:=w3.heap.size) rfl (by rfl) rfl (by omega) ?_;clear zn zt zpb zub yn HA;intro rr rc w4 HA)
      go_roundg k
      case measure=>exact Nat.lt_succ_self k
      case rel=>exact⟨lk++ [(n,an,cn)],_,false,rfl,by simp;omega,by rw [List.map_append];exact HT,HA.out.pick [2,3] [] (by decide)⟩
    |false=>
     replace HT:=hneg HT (by rw [Bool.false_and];decide)
     go_upto_region 10 with fail
     go_wp2_with (at_builtin;refine wp_app (by rfl) _ _ _ (by rfl) (by kernel_rfl) nd_info HA.out 0 rfl (by rfl) (g:=w3.heap.size) rfl (by rfl) rfl (by omega) ?_;clear zn zt zpb zub yn HA;intro rr rc w4 HA)
     go_roundg k
     case measure=>exact Nat.lt_succ_self k
     case rel=>exact⟨lk++ [(n,an,cn)],_,false,rfl,by simp;omega,by rw [List.map_append];exact HT,HA.out.pick [2,3] [] (by decide)⟩
end
section
open Go.RowKit
attribute [local go_sem] fld_tk0 fld_tk1 fld_tk2 fld_tk3 fld_tk4 mk_func
attribute [local go_sem ↓] Go.wp_at_zero Go.wp_at_succ
theorem fromK_at {l:List Nd} {d:Int} (h:0<l.length):fromK l d=l[0].from':=by
 cases l with
 |nil=>simp at h
 |cons x l=>rfl
theorem tillK_at {l:List Nd} {d:Int} (h:0<l.length):tillK l d=(l[l.length - 1]'(by omega)).till:=by
 unfold tillK
 rw [List.getLast?_eq_getElem?,List.getElem?_eq_getElem (by omega)]
theorem caseN_at {l:List Nd} {d:Int} (h:0<l.length):caseN l d= .mk 58 ⟨#[]⟩ l l[0].from' (l[l.length - 1]'(by omega)).till:=by
 unfold caseN
 rw [fromK_at h,tillK_at h]
section
variable {E:PE} {F0 F X:Nat→Prop} {w0 w W:World} {q:Ps} {bs:List Box} {ns:List Kd} {ro:Option (Value × List Kd)}
theorem Sa.set34 (h:Sa E F0 X w0 w q bs ns ro) (i:Nat) {g:Nat} {v0 v1 v2 v3 v4:Value} {t:TypeId} (hb:nth bs i=some (g,true,.c5 v0 v1 v2 v3 v4 t)) (u3 u4:Value):
  ∃W,(w.setCell ⟨g,3,none⟩ u3).setCell ⟨g,4,none⟩ u4=W∧Hid (Sa E F0 X w0 W q (setAt bs i (g,true,.c5 v0 v1 v2 u3 u4 t)) ns ro):=by
 obtain⟨F,h⟩:=h
 refine⟨_,rfl,F,?_⟩
 have hat:w.heap[g]? =some (.cells #[v0,v1,v2,v3,v4] t (0,0)):=(h.bx _ (nth_mem hb)).2.1
 have e0:=heap_setCell_same _ g 3 _ _ u3 hat
 have e1:=heap_setCell_same _ g 4 _ _ u4 e0
 have e2:((w.setCell ⟨g,3,none⟩ u3).setCell ⟨g,4,none⟩ u4).heap[g]? =some (.cells #[v0,v1,v2,u3,u4] t (0,0)):=by simpa using e1
 exact h.setW (b':= .c5 v0 v1 v2 u3 u4 t) i hb (Only.setCell (X:=fun k=>k=g) (Only.setCell (X:=fun k=>k=g) (Only.refl _ _) (p:=⟨g,3,none⟩) (.inl rfl) _) (p:=⟨g,4,none⟩) (.inl rfl) _) e2
end
theorem tk_keep {w w':World} {g:Nat} {t:Tk} (h:w.heap[g]? =some (.cells #[.int .i64 t.kind,.string t.text,.int .i64 t.from',.int .i64 t.till,.bool t.line] 54 (0,0))) (hb:Below w.heap.size w w'):w'.heap[g]? =some (.cells #[.int .i64 t.kind,.string t.text,.int .i64 t.from',.int .i64 t.till,.bool t.line] 54 (0,0)):=(hb.block _ (Array.getElem?_eq_some_iff.1 h).1).trans h
theorem tk_cells {w:World} {g:Nat} {t:Tk} (h:w.heap[g]? =some (.cells #[.int .i64 t.kind,.string t.text,.int .i64 t.from',.int .i64 t.till,.bool t.line] 54 (0,0))):w.cell? ⟨g,0,none⟩=some (.int .i64 t.kind)∧w.cell? ⟨g,1,none⟩=some (.string t.text)∧w.cell? ⟨g,2,none⟩=some (.int .i64 t.from')∧w.cell? ⟨g,3,none⟩=some (.int .i64 t.till)∧w.cell? ⟨g,4,none⟩=some (.bool t.line):=by
 have hc:=fun i=>cell_of_row w g i _ _ _ h
 exact⟨hc 0,hc 1,hc 2,hc 3,hc 4⟩
theorem end_switch:EndOk 126 2:=by
 intro t W
 refine⟨by kernel_rfl,?_⟩
 have hB:=(Below.alloc (Below.refl _ W) (Nat.le_refl _) (.cells #[.int .i64 t.kind,.string t.text,.int .i64 t.from',.int .i64 t.till,.bool t.line] 54))
 obtain⟨b1,h1⟩: ∃b,punctT t ⟨#[125]⟩=b:=⟨_,rfl⟩
 obtain⟨b2,h2⟩: ∃b,nameT t ⟨#[99,97,115,101]⟩=b:=⟨_,rfl⟩
 obtain⟨b3,h3⟩: ∃b,nameT t ⟨#[100,101,102,97,117,108,116]⟩=b:=⟨_,rfl⟩
 have H1:=Lib.hid h1
 have H2:=Lib.hid h2
 have H3:=Lib.hid h3
 have HE:Hid (endB 2 t=(b1||b2||b3)):=Lib.hid (by rw [endB,if_neg (by decide),if_neg (by decide),h1,h2,h3])
 clear h1 h2 h3
 go_enter Tryz.func126,Tryz.ntmps126
 go_wp2_with fail
 refine(P.punct t ⟨#[125]⟩ _).mono ?_
 rintro e w2 ⟨rfl,hb⟩
 rw [H1.out]
 have hk2:w2.heap[W.heap.size]? =some (.cells #[.int .i64 t.kind,.string t.text,.int .i64 t.from',.int .i64 t.till,.bool t.line] 54 (0,0)):=(hb.block _ (by rw [World.size_alloc];omega)).trans (heap_alloc_new _ _)
 have HB:=Lib.hid (hB.trans (hb.mono hB.size))
 obtain⟨z0,z1,z2,z3,z4⟩:=tk_cells hk2
 have HK:=Lib.hid hk2
 clear hb hk2
 cases b1 with
 |true=>
  go_wp2_with fail
  go_ret
  exact⟨by rw [HE.out];rfl,HB.out⟩
 |false=>
  go_wp2_with fail
  refine(P.name t ⟨#[99,97,115,101]⟩ _).mono ?_
  rintro e w3 ⟨rfl,hb⟩
  rw [H2.out]
  have hk3:=tk_keep HK.out hb
  replace HB:=Lib.hid (HB.out.trans (hb.mono HB.out.size))
  clear z0 z1 z2 z3 z4 HK
  obtain⟨z0,z1,z2,z3,z4⟩:=tk_cells hk3
  clear hb hk3
  cases b2 with
  |true=>
   go_wp2_with fail
   go_ret
   exact⟨by rw [HE.out];rfl,HB.out⟩
  |false=>
   go_wp2_with fail
   refine(P.name t ⟨#[100,101,102,97,117,108,116]⟩ _).mono ?_
   rintro e w4 ⟨rfl,hb⟩
   rw [H3.out]
   replace HB:=Lib.hid (HB.out.trans (hb.mono HB.out.size))
   clear z0 z1 z2 z3 z4 hb
   go_wp2_with fail
   go_ret
   exact⟨by rw [HE.out];cases b3<;>rfl,HB.out⟩
theorem S.head {E:PE} {R:(x:Fn)→PM x.Out} (hR:Env E R) {F:Nat→Prop} {w:World} {p:Ps} (h:St E F w p) (hne:headS E.s R p≠ .out):
  Calls Tryz.prog 70 #[.pointer (some ⟨E.b,0,none⟩)] w (Ans E F X0 w (headS E.s R p) fun n v w'=>IsP E F w' n v):=by
 obtain⟨T,hT⟩: ∃T,headS E.s R p=T:=⟨_,rfl⟩
 rw [hT] at hne⊢
 unfold headS at hT
 have HT:=Lib.hid hT
 have HN:=Lib.hid hne
 have HA:=Sa.start0 (X:=X0) h
 clear h hne hT
 go_enter Tryz.func70,Tryz.ntmps70
 go_wp2_with fail
 replace HA:=HA.out.pZ (g:=w.heap.size) rfl
 refine HA.out.stepV HT HN (fun _ h e=>P.want hR.ok ⟨#[40]⟩ h.s e) ?_ ?_
 ·intro _ _ _ H;go_wp2_with fail;exact⟨rfl,Ans.badh H⟩
 clear HT HA
 intro _ q1 w1 HT HA
 obtain⟨zr,-⟩:=HA.out.fs
 have yr:=HA.out.fw 0 rfl
 go_wp2_with fail
 refine HA.out.stepN HT HN (fun _ h e=>hR.h .inner _ _ _ h.s e) ?_ ?_
 ·intro _ _ _ H;go_wp2_with fail;exact⟨rfl,Ans.badh H⟩
 clear zr yr HT HA
 intro n an cn q2 w2 HT HA
 obtain⟨zr,-⟩:=HA.out.fs
 have yr:=HA.out.fw 0 rfl
 go_wp2_with fail
 replace HA:=HA.out.pN (g:=w2.heap.size) rfl n an cn
 refine HA.out.stepV HT HN (fun _ h e=>P.want hR.ok ⟨#[41]⟩ h.s e) ?_ ?_
 ·intro _ _ _ H;go_wp2_with fail;exact⟨rfl,Ans.badh H⟩
 clear zr yr HT HA
 intro _ q3 w3 HT HA
 obtain⟨zn,zr,-⟩:=HA.out.fs
 have yr:=HA.out.fw 1 rfl
 replace HT:=htail HT
 go_wp2_with fail
 exact HA.out.fin_nd 1 0 rfl rfl rfl rfl rfl HT.out.symm
def SwR (E:PE) (R:(x:Fn)→PM x.Out) (f:Nat) (F:Nat→Prop) (w:World) (gt gr go:Nat) (t:Tk) (of:Nd) (aof:Option Addr) (cof:Nat) (op:Int) (T:Res Nd) (k:Nat) (u d:Value) (wr:World):Prop:=
 ∃(l:List Kd) (q:Ps) (pl:Bool),d= .bool pl∧l.length+k≤f∧Hid (casesL E.s R t.from' of op k pl (l.map (·.1)) q=T)∧Hid (Sa E F X0 w wr q [(gt,true,.tk t),(gr,true,.z),(go,true,.nd of aof cof)] [(of,aof,cof)] (some (u,l)))
theorem S.switched {E:PE} {R:(x:Fn)→PM x.Out} (hR:Env E R) {F:Nat→Prop} {w:World} {p:Ps} (f:Nat) (hf:f≤1073741824) (t:Tk) (h:St E F w p) (hne:switchedQ E.s f R t p≠ .out):
  Calls Tryz.prog 76 #[.pointer (some ⟨E.b,0,none⟩),.agg #[.int .i64 t.kind,.string t.text,.int .i64 t.from',.int .i64 t.till,.bool t.line]] w (Ans E F X0 w (switchedQ E.s f R t p) fun n v w'=>IsP E F w' n v):=by
 obtain⟨T,hT⟩: ∃T,switchedQ E.s f R t p=T:=⟨_,rfl⟩
 rw [hT] at hne⊢
 unfold switchedQ at hT
 have HT:=Lib.hid hT
 have HN:=Lib.hid hne
 have HA:=Sa.start0 (X:=X0) h
 clear h hne hT
 go_enter Tryz.func76,Tryz.ntmps76
 go_wp2_with fail
 replace HA:=HA.out.pT (g:=w.heap.size) rfl t
 replace HA:=HA.out.pZ (g:=(w.heap.size+1)) (by simp)
 refine HA.out.stepV HT HN (fun _ h e=>P.take hR.ok h.s e) ?_ ?_
 ·intro _ _ _ H;go_wp2_with fail;exact⟨rfl,Ans.badh H⟩
 clear HT HA
 intro _ q1 w1 HT HA
 obtain⟨zr,zt,-⟩:=HA.out.fs
 have yr:=HA.out.fw 0 rfl
 go_wp2_with fail
 refine HA.out.stepN HT HN (fun _ h e=>hR.h .head _ _ _ h.s e) ?_ ?_
 ·intro _ _ _ H;go_wp2_with fail;exact⟨rfl,Ans.badh H⟩
 clear zr zt yr HT HA
 intro of aof cof q2 w2 HT HA
 obtain⟨zr,zt,-⟩:=HA.out.fs
 have yr:=HA.out.fw 0 rfl
 go_wp2_with fail
 replace HA:=HA.out.pN (g:=w2.heap.size) rfl of aof cof
 refine HA.out.stepV HT HN (fun _ h e=>P.want hR.ok ⟨#[123]⟩ h.s e) ?_ ?_
 ·intro _ _ _ H;go_wp2_with fail;exact⟨rfl,Ans.badh H⟩
 clear zr zt yr HT HA
 intro o q3 w3 HT HA
 obtain⟨zof,zr,zt,-⟩:=HA.out.fs
 have yr:=HA.out.fw 1 rfl
 go_wp2_with fail
 clear zof zr zt yr
 replace HA:=HA.out.row0
 go_loopg [7,8,11,12,29,36] f (fun k u d _ _ _ _ wr=>SwR E R f F w (w.heap.size) ((w.heap.size+1)) (w2.heap.size) t of aof cof o.from' T k u d wr)
 case atStart=>exact⟨[],_,false,rfl,by simp,HT,HA.out.pick [2,1,0] [0] (by decide)⟩
 case round=>
  clear HT HA
  obtain⟨lk,q,pl,rfl,hlen,HT,HA⟩:=hrel
  cases gk with
  |zero=>exact absurd HT.out.symm HN.out
  |succ k=>
   unfold casesL at HT
   obtain⟨sa,sc,rfl⟩:=HA.out.rowform
   obtain⟨zt,zr,zof,-⟩:=HA.out.fs
   have yr:=HA.out.fw 1 rfl
   go_wp2_with fail
   refine HA.out.stepV HT HN (fun _ h e=>P.peek hR.ok 2 h.s e) ?_ ?_
   ·intro _ _ _ H;go_wp2_with fail;exact⟨rfl,Ans.badh H⟩
   clear zt zr zof yr HT HA
   intro ct q4 w4 HT HA
   obtain⟨zt,zr,zof,-⟩:=HA.out.fs
   have yr:=HA.out.fw 1 rfl
   go_wp2_with fail
   replace HA:=HA.out.pT (g:=w4.heap.size) rfl ct
   refine HA.out.stepV HT HN (fun _ h e=>P.is hR.ok ⟨#[125]⟩ h.s e) ?_ ?_
   ·intro _ _ _ H;go_wp2_with fail;exact⟨rfl,Ans.badh H⟩
   clear zt zr zof yr HT HA
   intro b q5 w5 HT HA
   obtain⟨zct,zt,zr,zof,-⟩:=HA.out.fs
   have yr:=HA.out.fw 2 rfl
   cases b with
   |true=>
    replace HT:=hpos HT (by rfl)
    go_wp2_with fail
    refine HA.out.nodeR 74 ⟨#[]⟩ o.from' rfl HT ?_
    clear zct zt zr zof yr HT HA
    intro cs acs ccs w6 _ HT HA
    obtain⟨zct,zt,zr,zof,-⟩:=HA.out.fs
    have yr:=HA.out.fw 2 rfl
    replace HT:=htail HT
    go_wp2_with fail
    replace HA:=HA.out.pN (g:=w6.heap.size) rfl cs acs ccs
    refine HA.out.node 73 ⟨#[]⟩ t.from' [(of,aof,cof),(cs,acs,ccs)] (by simp) rfl (by simp) rfl rfl HT ?_
    clear zct zt zr zof yr HT HA
    intro m am cm w7 _ HT HA
    obtain⟨zcs,zct,zt,zr,zof,-⟩:=HA.out.fs
    have yr:=HA.out.fw 3 rfl
    go_wp2_with fail
    exact HA.out.fin_nd 3 0 rfl rfl rfl rfl rfl HT.out.symm
   |false=>
    replace HT:=hneg HT (by decide)
    go_wp2_with fail
    replace HA:=HA.out.pZ (g:=w5.heap.size) rfl
    refine HA.out.stepQ (fun _ h=>P.name ct ⟨#[99,97,115,101]⟩ _) ?_
    clear zct zt zr zof yr HA
    intro w6 HA
    obtain⟨ztest,zct,zt,zr,zof,-⟩:=HA.out.fs
    have ytest:=HA.out.fw 0 rfl
    have yr:=HA.out.fw 3 rfl
    cases hcs:nameT ct ⟨#[99,97,115,101]⟩ with
    |true=>
     replace HT:=hpos HT (by exact hcs)
     go_wp2_with fail
     refine HA.out.stepV HT HN (fun _ h e=>P.take hR.ok h.s e) ?_ ?_
     ·intro _ _ _ H;go_wp2_with fail;exact⟨rfl,Ans.badh H⟩
     clear ztest zct zt zr zof ytest yr HT HA
     intro _ q7 w7 HT HA
     obtain⟨ztest,zct,zt,zr,zof,-⟩:=HA.out.fs
     have ytest:=HA.out.fw 0 rfl
     have yr:=HA.out.fw 3 rfl
     go_wp2_with fail
     refine HA.out.stepN HT HN (fun _ h e=>hR.h .inner _ _ _ h.s e) ?_ ?_
     ·intro _ _ _ H;go_wp2_with fail;exact⟨rfl,Ans.badh H⟩
     clear ztest zct zt zr zof ytest yr HT HA
     intro x ax cx q8 w8 HT HA
     obtain⟨ztest,zct,zt,zr,zof,-⟩:=HA.out.fs
     have ytest:=HA.out.fw 0 rfl
     have yr:=HA.out.fw 3 rfl
     go_upto_region 16 with fail
     replace HA:=HA.out.setN 0 0 rfl rfl rfl
     clear ztest zct zt zr zof ytest yr
     obtain⟨w9,e8,HA⟩:=HA
     rw [e8]
     clear e8
     dsimp only [setAt] at HA
     obtain⟨ztest,zct,zt,zr,zof,-⟩:=HA.out.fs
     have ytest:=HA.out.fw 0 rfl
     have yr:=HA.out.fw 3 rfl
     go_wp2_with fail
     refine HA.out.stepV HT HN (fun _ h e=>P.want hR.ok ⟨#[58]⟩ h.s e) ?_ ?_
     ·intro _ _ _ H;go_wp2_with fail;exact⟨rfl,Ans.badh H⟩
     clear ztest zct zt zr zof ytest yr HT HA
     intro v q10 w10 HT HA
     obtain⟨ztest,zct,zt,zr,zof,-⟩:=HA.out.fs
     have ytest:=HA.out.fw 0 rfl
     have yr:=HA.out.fw 3 rfl
     go_wp2_with fail
     refine HA.out.stepK HT HN (fun _ h e=>hR.h (.statements false false 2) _ _ _ _ end_switch h.s e) ?_ ?_
     ·intro _ _ _ H;go_wp2_with fail;exact⟨rfl,Ans.badh H⟩
     clear ztest zct zt zr zof ytest yr HT HA
     intro ks akn ckn q11 w11 HT HA
     obtain⟨ztest,zct,zt,zr,zof,-⟩:=HA.out.fs
     have ytest:=HA.out.fw 0 rfl
     have yr:=HA.out.fw 3 rfl
     by_cases hbig:4194304<ks.length
     ·rw [if_pos (by exact hbig)] at HT
      exact absurd HT.out.symm HN.out
     ·rw [if_neg (by exact hbig)] at HT
      by_cases hl0:0<ks.length
      ·have hl0':(0:Int)<(ks.length:Int):=by omega
       have hlw:IntKind.i64.wrap ((ks.length:Int) - 1)=((ks.length - 1:Nat):Int):=by rw [IntKind.wrap_i64];omega
       have hl1':((ks.length - 1:Nat):Int)<(ks.length:Int):=by omega
       have hl2':(0:Int)≤((ks.length - 1:Nat):Int):=by omega
       go_upto_region 20 with fail
       replace HA:=HA.out.p5 (g:=w11.heap.size) rfl (.int .i64 58) (.string ⟨#[]⟩) (.slice akn ks.length ckn) (.int .i64 v.till) (.int .i64 v.till) 31
       clear ztest zct zt zr zof ytest yr
       generalize (w11.alloc (.cells #[.int .i64 58,.string ⟨#[]⟩,.slice akn ks.length ckn,.int .i64 v.till,.int .i64 v.till] 31))=w12 at*
       obtain⟨zb,ztest,zct,zt,zr,zof,-⟩:=HA.out.fs
       have yb:=HA.out.fw 0 rfl
       have ytest:=HA.out.fw 1 rfl
       have yr:=HA.out.fw 4 rfl
       obtain⟨g0,off0,b0,c0,ha0,hg0,_,_,_,hc3,_,_⟩:=HA.out.kid 0 rfl hl0
       rw [show off0+0*5=off0 by omega] at hc3
       obtain⟨g1,off1,b1,c1,ha1,hg1,_,_,_,_,hc4,_⟩:=HA.out.kid (j:=ks.length - 1) 0 rfl (by show ks.length - 1<ks.length;omega)
       have hsame:=ha0.symm.trans ha1
       simp only [Option.some.injEq,Addr.mk.injEq] at hsame
       obtain⟨rfl,rfl,_⟩:=hsame
       clear ha1 hg1
       rw [caseN_at hl0] at HT
       have ex0:(Nd.mk 0 ⟨#[]⟩ ks 0 0).kids[0]'hl0=ks[0]:=rfl
       have ex1:(Nd.mk 0 ⟨#[]⟩ ks 0 0).kids[ks.length - 1]'(by show ks.length - 1<ks.length;omega)=ks[ks.length - 1]'(by omega):=rfl
       rw [ex0] at hc3
       rw [ex1] at hc4
       clear ex0 ex1
       obtain⟨f0,hf0⟩: ∃f0,ks[0].from'=f0:=⟨_,rfl⟩
       obtain⟨u0,hu0⟩: ∃u0,(ks[ks.length - 1]'(by omega)).till=u0:=⟨_,rfl⟩
       rw [hf0] at hc3 HT
       rw [hu0] at hc4 HT
       clear hf0 hu0
       subst ha0
       go_region
       clear hc3 hc4
       clear zb ztest zct zt zr zof yb ytest yr
       obtain⟨W3,e3,HA⟩:=HA.out.set34 0 rfl (.int .i64 f0) (.int .i64 u0)
       rw [e3]
       clear e3
       dsimp only [setAt] at HA
       replace HA:=HA.out.drew
       generalize World.drew W3=w9 at*
       replace HA:=HA.out.re 0 rfl (Nd.mk 58 ⟨#[]⟩ ks f0 u0) rfl
       obtain⟨zb,ztest,zct,zt,zr,zof,-⟩:=HA.out.fs
       have yb:=HA.out.fw 0 rfl
       have ytest:=HA.out.fw 1 rfl
       have yr:=HA.out.fw 4 rfl
       go_wp2_with fail
       refine HA.out.node 75 ⟨#[]⟩ ct.from' [(x,ax,cx),(Nd.mk 58 ⟨#[]⟩ ks f0 u0,some ⟨g0,off0,none⟩,ckn)] (by simp) rfl rfl rfl rfl HT ?_
       clear zb ztest zct zt zr zof yb ytest yr HT HA
       intro kk akk ckk w13 _ HT HA
       obtain⟨zb,ztest,zct,zt,zr,zof,-⟩:=HA.out.fs
       have yb:=HA.out.fw 0 rfl
       have ytest:=HA.out.fw 1 rfl
       have yr:=HA.out.fw 4 rfl
       go_wp2_with (at_builtin;refine wp_app (by rfl) _ _ _ (by rfl) (by kernel_rfl) nd_info HA.out 0 rfl (by rfl) (g:=w13.heap.size) rfl (by rfl) rfl (by omega) ?_;clear zb ztest zct zt zr zof yb ytest yr HA;intro rr rc w14 HA)
       go_roundg k
       case measure=>exact Nat.lt_succ_self k
       case rel=>exact⟨lk++ [(kk,akk,ckk)],_,pl,rfl,by simp;omega,by rw [List.map_append];exact HT,HA.out.pick [3,4,5] [4] (by decide)⟩
      ·obtain rfl:ks= []:=List.length_eq_zero_iff.1 (by omega)
       clear hl0 hbig
       replace HT:Hid ((nodeP 75 ⟨#[]⟩ ct.from' [x,.mk 58 ⟨#[]⟩ [] v.till v.till]>>=fun k2=>casesL E.s R t.from' of o.from' k pl (lk.map (·.1)++ [k2])) q11=T):=HT
       replace HA:=HA.out.re 0 rfl (Nd.mk 58 ⟨#[]⟩ [] v.till v.till) rfl
       go_wp2_with fail
       replace HA:=HA.out.p5 (g:=w11.heap.size) rfl (.int .i64 58) (.string ⟨#[]⟩) (.slice akn 0 ckn) (.int .i64 v.till) (.int .i64 v.till) 31
       refine HA.out.node 75 ⟨#[]⟩ ct.from' [(x,ax,cx),(Nd.mk 58 ⟨#[]⟩ [] v.till v.till,akn,ckn)] (by simp) rfl (by simp) rfl rfl HT ?_
       clear ztest zct zt zr zof ytest yr HT HA
       intro kk akk ckk w12 _ HT HA
       obtain⟨zb,ztest,zct,zt,zr,zof,-⟩:=HA.out.fs
       have yb:=HA.out.fw 0 rfl
       have ytest:=HA.out.fw 1 rfl
       have yr:=HA.out.fw 4 rfl
       go_wp2_with (at_builtin;refine wp_app (by rfl) _ _ _ (by rfl) (by kernel_rfl) nd_info HA.out 0 rfl (by rfl) (g:=w12.heap.size) rfl (by rfl) rfl (by omega) ?_;clear zb ztest zct zt zr zof yb ytest yr HA;intro rr rc w13 HA)
       go_roundg k
       case measure=>exact Nat.lt_succ_self k
       case rel=>exact⟨lk++ [(kk,akk,ckk)],_,pl,rfl,by simp;omega,by rw [List.map_append];exact HT,HA.out.pick [3,4,5] [4] (by decide)⟩
    |false=>
     replace HT:=hneg HT (by rw [hcs];decide)
     go_wp2_with fail
     refine HA.out.stepQ (fun _ h=>P.name ct ⟨#[100,101,102,97,117,108,116]⟩ _) ?_
     clear ztest zct zt zr zof ytest yr HA
     intro w7 HA
     obtain⟨ztest,zct,zt,zr,zof,-⟩:=HA.out.fs
     have ytest:=HA.out.fw 0 rfl
     have yr:=HA.out.fw 3 rfl
     cases hds:nameT ct ⟨#[100,101,102,97,117,108,116]⟩ with
     |true=>
      cases pl with
      |true=>
       replace HT:=hneg HT (by rw [hds];decide)
       go_wp2_with fail
       have H:=HA.out.bad HT.out.symm
       refine HA.out.odd ?_
       go_wp2_with fail
       exact⟨rfl,Ans.badh H⟩
      |false=>
       replace HT:=hpos HT (by rw [hds];rfl)
       go_wp2_with fail
       refine HA.out.stepV HT HN (fun _ h e=>P.take hR.ok h.s e) ?_ ?_
       ·intro _ _ _ H;go_wp2_with fail;exact⟨rfl,Ans.badh H⟩
       clear ztest zct zt zr zof ytest yr HT HA
       intro _ q8 w8 HT HA
       obtain⟨ztest,zct,zt,zr,zof,-⟩:=HA.out.fs
       have ytest:=HA.out.fw 0 rfl
       have yr:=HA.out.fw 3 rfl
       go_wp2_with fail
       refine HA.out.stepV HT HN (fun _ h e=>P.want hR.ok ⟨#[58]⟩ h.s e) ?_ ?_
       ·intro _ _ _ H;go_wp2_with fail;exact⟨rfl,Ans.badh H⟩
       clear ztest zct zt zr zof ytest yr HT HA
       intro v q9 w9 HT HA
       obtain⟨ztest,zct,zt,zr,zof,-⟩:=HA.out.fs
       have ytest:=HA.out.fw 0 rfl
       have yr:=HA.out.fw 3 rfl
       go_wp2_with fail
       refine HA.out.stepK HT HN (fun _ h e=>hR.h (.statements false false 2) _ _ _ _ end_switch h.s e) ?_ ?_
       ·intro _ _ _ H;go_wp2_with fail;exact⟨rfl,Ans.badh H⟩
       clear ztest zct zt zr zof ytest yr HT HA
       intro ks akn ckn q10 w10 HT HA
       obtain⟨ztest,zct,zt,zr,zof,-⟩:=HA.out.fs
       have ytest:=HA.out.fw 0 rfl
       have yr:=HA.out.fw 3 rfl
       by_cases hbig:4194304<ks.length
       ·rw [if_pos (by exact hbig)] at HT
        exact absurd HT.out.symm HN.out
       ·rw [if_neg (by exact hbig)] at HT
        by_cases hl0:0<ks.length
        ·have hl0':(0:Int)<(ks.length:Int):=by omega
         have hlw:IntKind.i64.wrap ((ks.length:Int) - 1)=((ks.length - 1:Nat):Int):=by rw [IntKind.wrap_i64];omega
         have hl1':((ks.length - 1:Nat):Int)<(ks.length:Int):=by omega
         have hl2':(0:Int)≤((ks.length - 1:Nat):Int):=by omega
         go_upto_region 20 with fail
         replace HA:=HA.out.p5 (g:=w10.heap.size) rfl (.int .i64 58) (.string ⟨#[]⟩) (.slice akn ks.length ckn) (.int .i64 v.till) (.int .i64 v.till) 31
         clear ztest zct zt zr zof ytest yr
         generalize (w10.alloc (.cells #[.int .i64 58,.string ⟨#[]⟩,.slice akn ks.length ckn,.int .i64 v.till,.int .i64 v.till] 31))=w11 at*
         obtain⟨zb,ztest,zct,zt,zr,zof,-⟩:=HA.out.fs
         have yb:=HA.out.fw 0 rfl
         have ytest:=HA.out.fw 1 rfl
         have yr:=HA.out.fw 4 rfl
         obtain⟨g0,off0,b0,c0,ha0,hg0,_,_,_,hc3,_,_⟩:=HA.out.kid 0 rfl hl0
         rw [show off0+0*5=off0 by omega] at hc3
         obtain⟨g1,off1,b1,c1,ha1,hg1,_,_,_,_,hc4,_⟩:=HA.out.kid (j:=ks.length - 1) 0 rfl (by show ks.length - 1<ks.length;omega)
         have hsame:=ha0.symm.trans ha1
         simp only [Option.some.injEq,Addr.mk.injEq] at hsame
         obtain⟨rfl,rfl,_⟩:=hsame
         clear ha1 hg1
         rw [caseN_at hl0] at HT
         have ex0:(Nd.mk 0 ⟨#[]⟩ ks 0 0).kids[0]'hl0=ks[0]:=rfl
         have ex1:(Nd.mk 0 ⟨#[]⟩ ks 0 0).kids[ks.length - 1]'(by show ks.length - 1<ks.length;omega)=ks[ks.length - 1]'(by omega):=rfl
         rw [ex0] at hc3
         rw [ex1] at hc4
         clear ex0 ex1
         obtain⟨f0,hf0⟩: ∃f0,ks[0].from'=f0:=⟨_,rfl⟩
         obtain⟨u0,hu0⟩: ∃u0,(ks[ks.length - 1]'(by omega)).till=u0:=⟨_,rfl⟩
         rw [hf0] at hc3 HT
         rw [hu0] at hc4 HT
         clear hf0 hu0
         subst ha0
         go_region
         clear hc3 hc4
         clear zb ztest zct zt zr zof yb ytest yr
         obtain⟨W3,e3,HA⟩:=HA.out.set34 0 rfl (.int .i64 f0) (.int .i64 u0)
         rw [e3]
         clear e3
         dsimp only [setAt] at HA
         replace HA:=HA.out.drew
         generalize World.drew W3=w9 at*
         replace HA:=HA.out.re 0 rfl (Nd.mk 58 ⟨#[]⟩ ks f0 u0) rfl
         obtain⟨zb,ztest,zct,zt,zr,zof,-⟩:=HA.out.fs
         have yb:=HA.out.fw 0 rfl
         have ytest:=HA.out.fw 1 rfl
         have yr:=HA.out.fw 4 rfl
         go_wp2_with fail
         refine HA.out.node 75 ⟨#[]⟩ ct.from' [(Nd.zero,none,0),(Nd.mk 58 ⟨#[]⟩ ks f0 u0,some ⟨g0,off0,none⟩,ckn)] (by simp) rfl rfl rfl rfl HT ?_
         clear zb ztest zct zt zr zof yb ytest yr HT HA
         intro kk akk ckk w12 _ HT HA
         obtain⟨zb,ztest,zct,zt,zr,zof,-⟩:=HA.out.fs
         have yb:=HA.out.fw 0 rfl
         have ytest:=HA.out.fw 1 rfl
         have yr:=HA.out.fw 4 rfl
         go_wp2_with (at_builtin;refine wp_app (by rfl) _ _ _ (by rfl) (by kernel_rfl) nd_info HA.out 0 rfl (by rfl) (g:=w12.heap.size) rfl (by rfl) rfl (by omega) ?_;clear zb ztest zct zt zr zof yb ytest yr HA;intro rr rc w13 HA)
         go_roundg k
         case measure=>exact Nat.lt_succ_self k
         case rel=>exact⟨lk++ [(kk,akk,ckk)],_,true,rfl,by simp;omega,by rw [List.map_append];exact HT,HA.out.pick [3,4,5] [3] (by decide)⟩
        ·obtain rfl:ks= []:=List.length_eq_zero_iff.1 (by omega)
         clear hl0 hbig
         replace HT:Hid ((nodeP 75 ⟨#[]⟩ ct.from' [.zero,.mk 58 ⟨#[]⟩ [] v.till v.till]>>=fun k2=>casesL E.s R t.from' of o.from' k true (lk.map (·.1)++ [k2])) q10=T):=HT
         replace HA:=HA.out.re 0 rfl (Nd.mk 58 ⟨#[]⟩ [] v.till v.till) rfl
         go_wp2_with fail
         replace HA:=HA.out.p5 (g:=w10.heap.size) rfl (.int .i64 58) (.string ⟨#[]⟩) (.slice akn 0 ckn) (.int .i64 v.till) (.int .i64 v.till) 31
         refine HA.out.node 75 ⟨#[]⟩ ct.from' [(Nd.zero,none,0),(Nd.mk 58 ⟨#[]⟩ [] v.till v.till,akn,ckn)] (by simp) rfl (by simp) rfl rfl HT ?_
         clear ztest zct zt zr zof ytest yr HT HA
         intro kk akk ckk w11 _ HT HA
         obtain⟨zb,ztest,zct,zt,zr,zof,-⟩:=HA.out.fs
         have yb:=HA.out.fw 0 rfl
         have ytest:=HA.out.fw 1 rfl
         have yr:=HA.out.fw 4 rfl
         go_wp2_with (at_builtin;refine wp_app (by rfl) _ _ _ (by rfl) (by kernel_rfl) nd_info HA.out 0 rfl (by rfl) (g:=w11.heap.size) rfl (by rfl) rfl (by omega) ?_;clear zb ztest zct zt zr zof yb ytest yr HA;intro rr rc w12 HA)
         go_roundg k
         case measure=>exact Nat.lt_succ_self k
         case rel=>exact⟨lk++ [(kk,akk,ckk)],_,true,rfl,by simp;omega,by rw [List.map_append];exact HT,HA.out.pick [3,4,5] [3] (by decide)⟩
     |false=>
      replace HT:=hneg HT (by rw [hds];simp)
      go_wp2_with fail
      have H:=HA.out.bad HT.out.symm
      refine HA.out.odd ?_
      go_wp2_with fail
      exact⟨rfl,Ans.badh H⟩
end
end Go.Proofs.YtnahajcjpmbflaaGreatDoor
