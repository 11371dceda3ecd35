/- Steps (Ve Qx). Conditions: as stated. -/
import Derived.Test.YtnobjeelihkjmaaGreatDoorZk11
import Derived.Deep.DrawnRows
set_option maxHeartbeats 1000000
set_option maxRecDepth 100000
namespace Go.Proofs.YtnobjeelihkjmaaGreatDoor
section
open Go.RowKit
theorem bI8: ∀l:List UInt8,l.contains 92=false→Lib.indexByte l 92= -1
 | [],_=>rfl
 |c::l,h=>by
  rw [List.contains_cons,Bool.or_eq_false_iff] at h
  have h2:=bI8 l h.2
  rw [Lib.indexByte,if_neg (fun e=>by rw [beq_iff_eq] at e;subst e;exact absurd h.1 (by decide)),if_pos (by rw [h2];rfl)]
theorem bd8 (t:ByteArray) (w:World) (he:t.data.toList.contains 92=false):Calls Tryz.prog 306 #[.string t] w fun e w'=>e= .returned (.bool true)∧Below w.heap.size w w':=by
 have HI:=Tryz.strings_IndexByte t 92 w
 rw [show (92:Int).toNat.toUInt8=92 from rfl,bI8 _ he] at HI
 have HJ:=hJ HI
 clear HI he
 go_enter Tryz.func306,Tryz.ntmps306
 go_wp2_with fail
 go_loopw [0,3,4,5,6] (fun sv _ _ _ _ wr=>sv= .string t∧w=wr) (fun _ _ _ _ _ _=>0)
 case atStart=>exact⟨rfl,rfl⟩
 case round=>
  obtain⟨rfl,hw⟩:=hrel
  subst hw
  go_wp2_with (go_at_call 95;refine HJ.out.mono ?_;rintro e w6 ⟨rfl,rfl⟩)
  go_ret
  exact⟨rfl,Below.refl _ _⟩
end
section
open Go.RowKit
attribute [local go_sem] ab3 ab4 ab5 ab6 ab7 ab8
attribute [local go_sem ↓] Go.wp_at_zero Go.wp_at_succ
theorem Sa.retext {E:PE} {F0 X:Nat→Prop} {w0 w:World} {q:Ps} {bs:List Box} {ns:List Kd} {ro:Option (Value × List Kd)} {n:Nd} {a:Option Addr} {c:Nat} (h:Sa E F0 X w0 w q bs ((n,a,c)::ns) ro) (x:ByteArray):
  Sa E F0 X w0 w q bs ((.mk n.kind x n.kids n.from' n.till,a,c)::(n,a,c)::ns) ro:=by
 obtain⟨F,h⟩:=h
 have h2:IsP E F w n (.agg #[.int .i64 n.kind,.string n.text,.slice a n.kids.length c,.int .i64 n.from',.int .i64 n.till]):=h.ni 0 rfl
 obtain⟨b,cap,hv,h3,h4⟩:=h2
 have e:b=a∧cap=c:=by
  simp only [Value.agg.injEq] at hv
  have:=congrArg (fun c:Array Value=>c[2]?) hv
  simp at this
  exact⟨this.1.symm,this.2.symm⟩
 obtain⟨rfl,rfl⟩:=e
 exact⟨F,h.node ⟨b,cap,rfl,h3,h4⟩⟩
theorem S.template {E:PE} {R:(x:Fn)→PM x.Out} (hR:Env E R) {F:Nat→Prop} {w:World} {p:Ps} (tagged:Bool) (h:St E F w p) (hne:ax7 tagged p≠ .out):
  Calls Tryz.prog 280 #[.pointer (some ⟨E.b,0,none⟩),.bool tagged] w (Ans E F X0 w (ax7 tagged p) fun n v w'=>IsP E F w' n v):=by
 obtain⟨T,hT⟩: ∃T,ax7 tagged p=T:=⟨_,rfl⟩
 rw [hT] at hne⊢
 unfold ax7 at hT
 have HT:=hJ hT
 have HN:=hJ hne
 have HA:=Sa.start0 (X:=X0) h
 clear h hne hT
 go_enter Tryz.func280,Tryz.ntmps280
 go_upto_region 1 with fail
 replace HA:=HA.out.pZ (g:=w.heap.size) rfl
 generalize (w.alloc (.cells #[.int .i64 0,.string ⟨#[]⟩,.slice none 0 0,.int .i64 0,.int .i64 0] 27))=w1 at*
 obtain⟨zr,-⟩:=HA.out.fs
 have yr:=HA.out.fw 0 rfl
 replace HT:=hget HT
 obtain⟨t,ht⟩: ∃t,p.tok=t:=⟨_,rfl⟩
 have c2:=HA.out.c_kind
 have c3:=HA.out.c_text
 have c4:=HA.out.c_from
 have c5:=HA.out.c_till
 have c6:=HA.out.c_line
 rw [ht] at c2 c3 c4 c5 c6 HT
 by_cases hc:(tagged=false∧(t.text.extract 1 (t.text.size - 1)).data.toList.contains 92=true)∨t.kind=8∨t.kind=10∨t.text.size<2∨16777216<t.text.size
 ·replace HT:=hpos HT (by exact hc)
  exact absurd HT.out.symm HN.out
 ·replace HT:=hneg HT (by exact hc)
  have HTK:=hJ ht
  simp only [not_or] at hc
  obtain⟨hc1,hc2,hc3,hc4,hc5⟩:=hc
  have HC1:=hJ hc1
  have e8:(t.kind==8)=false:=kf hc2
  have e10:(t.kind==10)=false:=kf hc3
  clear hc1 hc2 hc3 ht
  go_wp2_with fail
  replace HA:=HA.out.pT (g:=w1.heap.size) rfl t
  clear zr yr
  generalize (w1.alloc (.cells #[.int .i64 t.kind,.string t.text,.int .i64 t.from',.int .i64 t.till,.bool t.line] 49))=w2 at*
  obtain⟨zt,zr,-⟩:=HA.out.fs
  have yr:=HA.out.fw 1 rfl
  go_loopw [6,7,8,9] (fun u6 u7 _ _ wr=>u6= .slice none 0 0∧u7= .pointer (some ⟨w1.heap.size,0,none⟩)∧w2=wr) (fun _ _ _ _ _=>0)
  case atStart=>exact⟨rfl,rfl,rfl⟩
  case round=>
   obtain⟨rfl,rfl,hwr⟩:=hrel
   subst hwr
   clear c2 c3 c4 c5 c6
   go_wp2_with fail
   refine HA.out.leaf 9 t ?_
   clear zt zr yr HA
   intro n am cm w3 HE HA
   obtain⟨zt,zr,-⟩:=HA.out.fs
   have yr:=HA.out.fw 1 rfl
   have hts:((t.text.size:Int) - 1).toNat=t.text.size - 1:=by omega
   have hts1:(1:Int)≤(t.text.size:Int) - 1:=by omega
   have hts2:(t.text.size:Int) - 1≤(t.text.size:Int):=by omega
   go_upto_region 9 with fail
   obtain⟨x,hx⟩: ∃x,t.text.extract 1 (t.text.size - 1)=x:=⟨_,rfl⟩
   obtain⟨m,hm⟩: ∃m,Nd.mk n.kind x n.kids n.from' n.till=m:=⟨_,rfl⟩
   have HM:=Sa.retext HA.out x
   rw [hm] at HM
   have hm2:Nd.mk 9 x [] t.from' t.till=m:=by rw [←hm,←HE.out];rfl
   rw [hx,hm2] at HT
   rw [hx] at HC1
   have e1:n.kind=m.kind:=by rw [←hm];rfl
   have e2:x=m.text:=by rw [←hm];rfl
   have e3:n.kids.length=m.kids.length:=by rw [←hm];rfl
   have e4:n.from'=m.from':=by rw [←hm];rfl
   have e5:n.till=m.till:=by rw [←hm];rfl
   rw [hx]
   simp only [e1,e2,e3,e4,e5]
   replace HA:=hJ HM
   rw [e2] at HC1
   clear HM hm hm2 hx e1 e2 e3 e4 e5 HE hts hts1 hts2
   cases tagged
   focus
    have hno:m.text.data.toList.contains 92=false:=by simpa using HC1.out
    have HESC:=hJ (fun W=>bd8 m.text W hno)
    clear HC1 hno
    go_wp2_with fail
    replace HA:=HA.out.pN (g:=w3.heap.size) rfl m am cm
    refine HA.out.stepQ (fun _ _=>HESC.out _) ?_
    clear zt zr yr HA
    intro w4 HA
    obtain⟨zm,zt,zr,-⟩:=HA.out.fs
    have yr:=HA.out.fw 2 rfl
    go_wp2_with fail
   rotate_left
   focus
    go_wp2_with fail
    replace HA:=HA.out.pN (g:=w3.heap.size) rfl m am cm
   all_goals
    refine HA.out.stepV HT HN (fun _ h e=>P.take hR.ok h.s e) ?_ ?_
    ·intro _ _ _ H;go_wp2_with fail;exact⟨rfl,Ans.badh H⟩
    clear zt zr yr HT HA
    intro _ q4 w4 HT HA
    obtain⟨zm,zt,zr,-⟩:=HA.out.fs
    have yr:=HA.out.fw 2 rfl
    replace HA:=HA.out.row0
    go_wp2_with (at_builtin;refine aK2 (by rfl) _ _ _ (by rfl) (by kernel_rfl) ak2 HA.out 0 rfl (by rfl) (g:=w4.heap.size) rfl (by rfl) rfl (by simp) ?_;clear zm zt zr yr HA;intro rr rc w5 HA)
    go_wp2_with fail
    refine HA.out.nodeR 8 ⟨#[]⟩ t.from' rfl HT ?_
    clear HT HA
    intro k ak ck w6 _ HT HA
    obtain⟨zm,zt,zr,-⟩:=HA.out.fs
    have yr:=HA.out.fw 2 rfl
    go_wp2_with fail
    exact HA.out.fin_nd 2 0 rfl rfl rfl rfl rfl HT.out.symm
end
end Go.Proofs.YtnobjeelihkjmaaGreatDoor
