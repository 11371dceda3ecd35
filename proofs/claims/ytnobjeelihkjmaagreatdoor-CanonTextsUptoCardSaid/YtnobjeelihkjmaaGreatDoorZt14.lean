/- Steps (Qd Qm Qs). Conditions: as stated. -/
import Derived.Test.YtnobjeelihkjmaaGreatDoorZt04
import Derived.Test.YtnobjeelihkjmaaGreatDoorZt07
import Derived.Test.YtnobjeelihkjmaaGreatDoorZt08
import Derived.Test.YtnobjeelihkjmaaGreatDoorZt11
set_option maxHeartbeats 2000000
set_option maxRecDepth 20000
namespace Go.Proofs.YtnobjeelihkjmaaGreatDoor
section
open Go.RowKit
attribute [local go_sem] ac1 ac2 ac3 ac4 ac5 ac6
theorem ce9 {a b:ByteArray} (h:a≠b):(a.toList==b.toList)=false:=by
 rw [beq_eq_false_iff_ne]
 intro e
 rw [Lib.toList_data,Lib.toList_data] at e
 apply h
 cases a;cases b;congr 1;exact Array.toList_inj.1 e
def ixS (s:ByteArray):List ByteArray→Nat→Int
 | [],_=> -1
 |x::xs,i=>if s=x then (i:Int) else ixS s xs (i+1)
theorem bu1 (s:ByteArray): ∀(l:List ByteArray) (i:Nat),(0≤ixS s l i)↔s ∈ l
 | [],i=>by rw [ixS];simp
 |x::xs,i=>by
  rw [ixS,List.mem_cons]
  split
  ·rename_i h
   exact⟨fun _=> .inl h,fun _=>by omega⟩
  ·rename_i h
   rw [bu1 s xs (i+1)]
   exact⟨.inr,fun h2=>h2.resolve_left h⟩
theorem bF1 {s:ByteArray} {l:List ByteArray} {k:Nat} (h:k<l.length):ixS s (l.drop k) k=if s=l[k] then (k:Int) else ixS s (l.drop (k+1)) (k+1):=by
 rw [List.drop_eq_getElem_cons h,ixS]
theorem bt7 (s:ByteArray) (ss:List ByteArray) (g c:Nat) (w:World) (hg:g<w.heap.size) (hlen:ss.length≤16777216) (hrow: ∀j,(h:j<ss.length)→w.cell? ⟨g,j,none⟩=some (.string ss[j])):
  Calls Tryz.prog 146 #[.slice (some ⟨g,0,none⟩) ss.length c,.string s] w fun e w'=>e= .returned (.int .i64 (ixS s ss 0))∧w=w':=by
 have HR:=hJ hrow
 obtain⟨B,hB⟩: ∃B,ixS s ss 0=B:=⟨_,rfl⟩
 rw [hB]
 have HB:=hJ (show ixS s (ss.drop 0) 0=B by rw [List.drop_zero];exact hB)
 clear hrow hB
 go_enter Tryz.func146,Tryz.ntmps146
 go_wp2_with fail
 go_loopw [8] (fun i wr=> ∃k:Nat,k≤ss.length∧i= .int .i64 k∧wr=w∧Hid (ixS s (ss.drop k) k=B)) (fun i _=>ss.length - (intOf i).toNat)
 case atStart=>exact⟨0,Nat.zero_le _,rfl,rfl,HB⟩
 case round=>
  clear HB
  obtain⟨k,hk,rfl,rfl,HX⟩:=hrel
  by_cases hlt:k<ss.length
  ·have hc:=HR.out k hlt
   have HD:=hJ (bF1 (s:=s) hlt)
   generalize ss[k]=x at*
   by_cases he:s=x
   ·have HA:=hJ (show B=(k:Int) by rw [←HX.out,HD.out,if_pos he])
    subst he
    have h2:(s.toList==s.toList)=true:=by rw [beq_iff_eq]
    go_wp2_with fail
    go_ret
    exact⟨by rw [HA.out];rfl,rfl⟩
   ·have HA:=hJ (show ixS s (ss.drop (k+1)) (k+1)=B by rw [←HX.out,HD.out,if_neg he])
    have h2:=ce9 he
    clear he
    go_wp2_with fail
    go_roundw
    case rel=>exact⟨k+1,hlt,by go_num,by trivial,HA⟩
    case measure=>simp [intOf];omega
  ·obtain rfl:k=ss.length:=by omega
   have HA:=hJ (show B= -1 by rw [←HX.out,List.drop_length,ixS])
   go_wp2_with fail
   go_ret
   exact⟨by rw [HA.out];rfl,rfl⟩
def hasS (s:ByteArray) (ss:List ByteArray):Bool:=decide (0≤ixS s ss 0)
theorem bE5 (s:ByteArray) (ss:List ByteArray):hasS s ss=true↔s ∈ ss:=by rw [hasS,decide_eq_true_eq,bu1]
theorem aO8 (s:ByteArray) (ss:List ByteArray) (g c:Nat) (w:World) (hg:g<w.heap.size) (hlen:ss.length≤16777216) (hrow: ∀j,(h:j<ss.length)→w.cell? ⟨g,j,none⟩=some (.string ss[j])):
  Calls Tryz.prog 78 #[.slice (some ⟨g,0,none⟩) ss.length c,.string s] w fun e w'=>e= .returned (.bool (hasS s ss))∧w=w':=by
 have HI:=hJ (bt7 s ss g c w hg hlen hrow)
 have HD:=hJ (show hasS s ss=decide (0≤ixS s ss 0) from rfl)
 generalize ixS s ss 0=z at*
 generalize hasS s ss=B at*
 clear hrow
 go_enter Tryz.func78,Tryz.ntmps78
 go_wp2_with (go_at_call 146;refine HI.out.mono ?_;rintro e w2 ⟨rfl,rfl⟩)
 go_ret
 exact⟨by rw [HD.out];rfl,rfl⟩
theorem bE6 (s:ByteArray) (l:List ByteArray):hasS s l=ak5 s l:=by
 rw [Bool.eq_iff_iff,bE5,ak5,List.any_eq_true]
 simp
def aO2 (l:List ByteArray):Obj:= .cells (l.map fun x=>Value.string x).toArray 9
theorem bf1 (w:World) (l:List ByteArray) (j:Nat) (h:j<l.length):(w.alloc (aO2 l)).cell? ⟨w.heap.size,j,none⟩=some (.string l[j]):=by
 unfold aO2
 rw [cell_of_row _ w.heap.size j _ _ _ (heap_alloc_new w _)]
 simp [h]
theorem aS7 (s:ByteArray) (l:List ByteArray) (w:World) {g m:Nat} (hg:w.heap.size=g) (hm:l.length=m) (hl:m≤16777216):
  Calls Tryz.prog 78 #[.slice (some ⟨g,0,none⟩) m m,.string s] (w.alloc (aO2 l)) fun e w'=>e= .returned (.bool (ak5 s l))∧w.alloc (aO2 l)=w':=by
 subst hg hm
 rw [←bE6]
 exact aO8 s l _ _ _ (by simp) hl (fun j h=>bf1 w l j h)
def asgW:List ByteArray:= [⟨#[61]⟩,⟨#[43,61]⟩,⟨#[45,61]⟩,⟨#[42,61]⟩,⟨#[47,61]⟩,⟨#[37,61]⟩,⟨#[42,42,61]⟩,⟨#[60,60,61]⟩,⟨#[62,62,61]⟩,⟨#[62,62,62,61]⟩,⟨#[38,61]⟩,⟨#[124,61]⟩,⟨#[94,61]⟩,⟨#[38,38,61]⟩,⟨#[124,124,61]⟩,⟨#[63,63,61]⟩]
theorem bk8 (w:World) (h:Lx w):Calls Tryz.prog 79 #[.string ⟨#[61,32,43,61,32,45,61,32,42,61,32,47,61,32,37,61,32,42,42,61,32,60,60,61,32,62,62,61,32,62,62,62,61,32,38,61,32,124,61,32,94,61,32,38,38,61,32,124,124,61,32,63,63,61]⟩] w fun e w'=>e= .returned (.slice (some ⟨w.heap.size,0,none⟩) 16 16)∧w'=w.alloc (aO2 asgW):=by
 have ha: ∀b ∈ (⟨#[61,32,43,61,32,45,61,32,42,61,32,47,61,32,37,61,32,42,42,61,32,60,60,61,32,62,62,61,32,62,62,62,61,32,38,61,32,124,61,32,94,61,32,38,38,61,32,124,124,61,32,63,63,61]⟩:ByteArray).data.toList,b.toNat<128:=by decide+kernel
 have hf:=Tryz.strings_Fields ⟨#[61,32,43,61,32,45,61,32,42,61,32,47,61,32,37,61,32,42,42,61,32,60,60,61,32,62,62,61,32,62,62,62,61,32,38,61,32,124,61,32,94,61,32,38,38,61,32,124,124,61,32,63,63,61]⟩ w (by decide+kernel) (fun j b hj=>ha b (List.mem_of_getElem? hj)) h.spc
 have e:Lib.fields (⟨#[61,32,43,61,32,45,61,32,42,61,32,47,61,32,37,61,32,42,42,61,32,60,60,61,32,62,62,61,32,62,62,62,61,32,38,61,32,124,61,32,94,61,32,38,38,61,32,124,124,61,32,63,63,61]⟩:ByteArray).data.toList= [[61],[43,61],[45,61],[42,61],[47,61],[37,61],[42,42,61],[60,60,61],[62,62,61],[62,62,62,61],[38,61],[124,61],[94,61],[38,38,61],[124,124,61],[63,63,61]]:=by decide+kernel
 rw [e] at hf
 exact hf
theorem aO4 (t:Tk) (w:World) (h:Lx w):Calls Tryz.prog 85 #[.agg #[.int .i64 t.kind,.string t.text,.int .i64 t.from',.int .i64 t.till,.bool t.line]] w fun e w'=>e= .returned (.bool (ae0 t))∧Below w.heap.size w w':=by
 have hB:=(Below.alloc (Below.refl _ w) (Nat.le_refl _) (.cells #[.int .i64 t.kind,.string t.text,.int .i64 t.from',.int .i64 t.till,.bool t.line] 49))
 have hB2:=Below.drew hB
 have HF:=hJ (bk8 _ (h.bel hB2))
 have HC:=hJ (aS7 t.text asgW (w.alloc (.cells #[.int .i64 t.kind,.string t.text,.int .i64 t.from',.int .i64 t.till,.bool t.line] 49)).drew (g:=w.heap.size+1) (m:=16) (by simp) (by decide) (by decide))
 have hA:ae0 t=(decide (t.kind=5) && ak5 t.text asgW):=rfl
 rw [hA]
 clear hA h
 generalize ak5 t.text asgW=b at*
 by_cases hk:t.kind=5
 ·have h1:(t.kind==5)=true:=by rw [beq_iff_eq];exact hk
  have HK:=hJ hk
  have hB3:=hB2.alloc (Nat.le_trans (Nat.le_refl _) hB2.size) (aO2 asgW)
  clear hk
  go_enter Tryz.func85,Tryz.ntmps85
  go_wp2_with fail
  go_region_with (first|(go_at_call 79;refine HF.out.mono ?_;rintro e w2 ⟨rfl,rfl⟩)|(go_at_call 78;refine HC.out.mono ?_;rintro e w2 ⟨rfl,rfl⟩))
  all_goals
   go_wp2_with fail
   go_ret
   exact⟨by rw [decide_eq_true HK.out];rfl,hB3⟩
 ·have h1:(t.kind==5)=false:=by rw [beq_eq_false_iff_ne];exact hk
  have HK:=hJ hk
  clear hk
  go_enter Tryz.func85,Tryz.ntmps85
  go_wp2_with fail
  go_quiet (fail)
  go_wp2_with fail
  go_ret
  exact⟨by rw [decide_eq_false HK.out];rfl,by first|exact hB2|exact aa3 hB _⟩
end
section
open Go.RowKit Go.Maps
theorem bA5 {P:Program} {ops:Array Oper} {o:Oper} {a:Act} {K:Act→World→Prop} {Q:Exit→Act→World→Prop} {G:Prop} {w w':World} (hgd:o.guard=none) (m x v:Operand) (t:TypeId) (ho:o.op= .mapUpdate t m x v) {mv key val:Value} (hm:a.eval m=mv) (hx:a.eval x=key) (hv:a.eval v=val)
  (hr:(Instr.mapUpdate t mv key val).run P w= .ok () w') (hk:K (a.put o.dst undef) w'):if Region.wanted o (yielded ops a.tmps)=true then Oper.wp P o a w K Q else G:=by
 rw [if_pos (by simp [Region.wanted,hgd])]
 unfold Oper.wp
 simp [execOp,ho,hm,hx,hv,hr,Result.andThen]
 exact hk
theorem bL4 (w:World):(zeroValue 3).run Tryz.prog w= .ok (.int .i64 0) w:=by kernel_rfl
theorem bu2 {k:Int} (hk:okI k=true):Keyed Tryz.prog 3∧keyOf Tryz.prog 3 (.int .i64 k)=some (.int .i64 k):=by
 refine⟨int_keyed Tryz.underlying3,keyOf_int_mk Tryz.underlying3 ?_⟩
 unfold okI at hk
 simp only [Bool.and_eq_true,decide_eq_true_eq] at hk
 have e:wrap64 k=k:=by
  unfold wrap64
  omega
 rw [←e]
 exact wrap64_wf k
theorem ce0 {k:Int} (hk:okI k=true):(Lit.int .i64 k).wf=true:=by
 unfold okI at hk
 simp only [Bool.and_eq_true,decide_eq_true_eq] at hk
 have e:wrap64 k=k:=by
  unfold wrap64
  omega
 rw [←e]
 exact wrap64_wf k
theorem com_put {D:DataW Unit} {c:List (Int × Int)} (h:ComD D c) (ht:Tidy D) (k u:Int) (d:DataW Unit):ComD (D.put (.int .i64 k) d) ((k,u)::c):=by
 refine⟨fun j=> ?_,⟨fun e=> ?_,fun e=>by cases e⟩⟩
 ·show _=(decide (k=j)||hasC c j)
  by_cases hj:j=k
  ·subst hj
   rw [has_put_same ht.isMap (show WideAt.IsKeyLit (.int .i64 j) from trivial),decide_eq_true rfl]
   rfl
  ·rw [has_put_other (by rintro⟨⟩;exact hj rfl),h.1,decide_eq_false (Ne.symm hj),Bool.false_or]
 ·rw [size_put ht] at e
  split at e
  ·rename_i hh
   rw [h.1,h.2.1 e] at hh
   cases hh
  ·omega
section
variable {E:PE} {F:Nat→Prop} {w:World} {p:Ps}
theorem St.look (h:St E F w p) {k:Int} (hk:okI k=true): ∃mb v,w.cell? ⟨E.b,14,none⟩=some (.map (some mb))∧(Instr.lookup 59 (.map (some mb)) (.int .i64 k) true).run Tryz.prog w= .ok (.tuple #[v,.bool (hasC p.commas k)]) w:=by
 obtain⟨va,vc,mb,D,hO⟩:=h.open
 obtain⟨K,hkey⟩:=bu2 hk
 obtain⟨v,ps,hrun,_⟩:=hO.map.look_ok K Tryz.underlying59 (bL4 w) (plainElem_int (H:=Unit) Tryz.underlying3 (by decide)) hkey
 exact⟨mb,v,by rw [cell_of_row w E.b 14 _ _ _ hO.hb];rfl,by rw [hrun,hO.com.1]⟩
theorem St.com_put (h:St E F w p) {k u:Int} (hk:okI k=true) (hu:okI u=true) (hl:p.commas.length≤4194304):
  ∃mb,w.cell? ⟨E.b,14,none⟩=some (.map (some mb))∧∃w',(Instr.mapUpdate 59 (.map (some mb)) (.int .i64 k) (.int .i64 u)).run Tryz.prog w= .ok () w'∧St E F w' { p with commas:=(k,u)::p.commas } ∧PB E.b X0 w w':=by
 obtain⟨va,vc,mb,D,hO⟩:=h.open
 obtain⟨K,hkey⟩:=bu2 hk
 obtain⟨w',hrun,hm,ht⟩:=hO.map.store K Tryz.underlying59 (by unfold maxLen;omega) hkey (plainElem_int (H:=Unit) Tryz.underlying3 (ce0 hu))
 have hg:=ht.grown
 have ho:Only (fun k=>k=mb) w w':=⟨hg.os,hg.tape,hg.output,hg.size,fun i hi hn=>hg.block i hi fun e=>hn (by first|exact(Option.some.inj e)|exact(Option.some.inj e).symm)⟩
 have hlt:E.b<w.heap.size:=(Array.getElem?_eq_some_iff.1 hO.hb).1
 have h2:StO E F w' { p with commas:=(k,u)::p.commas } va vc mb _:= { hb:=(ho.block E.b hlt (Ne.symm hO.mbb)).trans hO.hb,ah:=ad6 hO.ah fun g hg hl=>ho.block g hl (hO.ahF g hg).2.2.2.2,ahF:=fun g hg=>⟨Nat.lt_of_lt_of_le (hO.ahF g hg).1 ho.size,(hO.ahF g hg).2⟩,cm:=ad6 hO.cm fun g hg hl=>ho.block g hl fun e=>hO.cmb (e▸hg),cb:=hO.cb,cmb:=hO.cmb,mbb:=hO.mbb,mb0:=hO.mb0,map:=hm,com:=Go.Proofs.YtnobjeelihkjmaaGreatDoor.com_put hO.com (hO.map.tidy K) k u _,fo:=fun k hk=>⟨(hO.fo k hk).1,Nat.lt_of_lt_of_le (hO.fo k hk).2.1 ho.size,(hO.fo k hk).2.2⟩,bel:=⟨ho.os.trans hO.bel.os,ho.tape.trans hO.bel.tape,ho.output.trans hO.bel.output,Nat.le_trans hO.bel.size ho.size,fun k hk=>(ho.block k (Nat.lt_of_lt_of_le hk hO.bel.size) (by have:=hO.mb0;omega)).trans (hO.bel.block k hk)⟩,nst:=hO.nst }
 exact⟨mb,by rw [cell_of_row w E.b 14 _ _ _ hO.hb];rfl,w',hrun,h2.st,hO.pb h2 (ho.mono fun _ e=> .inr (.inr e)) (fun _ hk=> .inl hk) rfl⟩
theorem Pc.kidP {n:Nd} {a:Option Addr} {cap:Nat} (h:IsP E F w n (.agg #[.int .i64 n.kind,.string n.text,.slice a n.kids.length cap,.int .i64 n.from',.int .i64 n.till])) {j:Nat} (hj:j<n.kids.length):
  ∃g off b c,a=some ⟨g,off,none⟩∧g<w.heap.size∧w.cell? ⟨g,off+j*5,none⟩=some (.int .i64 n.kids[j].kind)∧w.cell? ⟨g,off+j*5+1,none⟩=some (.string n.kids[j].text)∧
   w.cell? ⟨g,off+j*5+2,none⟩=some (.slice b n.kids[j].kids.length c)∧w.cell? ⟨g,off+j*5+3,none⟩=some (.int .i64 n.kids[j].from')∧w.cell? ⟨g,off+j*5+4,none⟩=some (.int .i64 n.kids[j].till)∧
   IsP E F w n.kids[j] (.agg #[.int .i64 n.kids[j].kind,.string n.kids[j].text,.slice b n.kids[j].kids.length c,.int .i64 n.kids[j].from',.int .i64 n.kids[j].till]):=by
 obtain⟨b,c,hv,hc,hr⟩:=h
 have e:b=a:=by
  simp only [Value.agg.injEq] at hv
  have:=congrArg (fun c:Array Value=>c[2]?) hv
  simp at this
  exact this.1.symm
 subst e
 obtain⟨g,off,b2,c2,ha,hs,c0,c1,c2',c3,c4,hc2,hr2⟩:=Pc.kid hr j hj
 exact⟨g,off,b2,c2,ha,hs.1,c0,c1,c2',c3,c4,b2,c2,rfl,hc2,hr2⟩
end
end
section
open Go.RowKit
theorem bA0 (l:List Value) (y0 y1 y2 y3 y4 u0 u1 u2 u3 u4:Value):
  (((((l++ [y0,y1,y2,y3,y4]).set l.length u0).set (l.length+1) u1).set (l.length+2) u2).set (l.length+3) u3).set (l.length+4) u4=l++ [u0,u1,u2,u3,u4]:=by
 simp
section
variable {E:PE} {F F1 X:Nat→Prop} {w:World} {p:Ps} {base g cap:Nat} {l:List Kd}
theorem KsO.setLast (hs:St E F w p) {y x:Kd} (h:KsO E F w base (.slice (some ⟨g,0,none⟩) (l.length+1) cap) (l++ [y])) (hx:KdOk E F w x) {W:World}
  (hW:W=(((((w.setCell ⟨g,l.length*5,none⟩ (.int .i64 x.1.kind)).setCell ⟨g,l.length*5+1,none⟩ (.string x.1.text)).setCell ⟨g,l.length*5+2,none⟩ (.slice x.2.1 x.1.kids.length x.2.2)).setCell ⟨g,l.length*5+3,none⟩ (.int .i64 x.1.from')).setCell ⟨g,l.length*5+4,none⟩ (.int .i64 x.1.till))):
  KsO E F W base (.slice (some ⟨g,0,none⟩) (l.length+1) cap) (l++ [x])∧Only (fun k=>k=g) w W∧F g:=by
 have hF:F g:=h.inF g rfl
 have ho:Only (fun k=>k=g) w W:=by
  rw [hW]
  have s:=fun(a:World) (j:Nat) (u:Value) (ha:Only (fun k=>k=g) w a)=>Only.setCell (X:=fun k=>k=g) ha (p:=⟨g,j,none⟩) (.inl rfl) u
  exact s _ _ _ (s _ _ _ (s _ _ _ (s _ _ _ (s _ _ _ (Only.refl _ w)))))
 have hoF:Only F w W:=ho.mono fun k hk=>by subst hk;exact hF
 refine⟨⟨?_,fun z hz=> ?_,fun k hk=>h.inF k hk⟩,ho,hF⟩
 ·have h0:=h.own
  rw [List.length_append,List.length_singleton,List.flatMap_append] at h0⊢
  have hr:=af3 (af3 (af3 (af3 (af3 h0 (l.length*5) (.int .i64 x.1.kind)) (l.length*5+1) (.string x.1.text)) (l.length*5+2) (.slice x.2.1 x.1.kids.length x.2.2)) (l.length*5+3) (.int .i64 x.1.from')) (l.length*5+4) (.int .i64 x.1.till)
  rw [←hW] at hr
  have e:([y].flatMap aa7)= [Value.int .i64 y.1.kind,.string y.1.text,.slice y.2.1 y.1.kids.length y.2.2,.int .i64 y.1.from',.int .i64 y.1.till]:=rfl
  have e2:([x].flatMap aa7)= [Value.int .i64 x.1.kind,.string x.1.text,.slice x.2.1 x.1.kids.length x.2.2,.int .i64 x.1.from',.int .i64 x.1.till]:=rfl
  rw [e,←aB1 l,bA0] at hr
  rw [e2]
  exact hr
 ·rcases List.mem_append.1 hz with hz|hz
  ·exact(h.is z (List.mem_append_left _ hz)).only hoF hs.lt hs.notF
  ·simp only [List.mem_cons,List.not_mem_nil,or_false] at hz
   subst hz
   exact hx.only hoF hs.lt hs.notF
theorem KsO.last (h:KsO E F w base (.slice (some ⟨g,0,none⟩) (l.length+1) cap) (l++ [(Nd.zero,none,0)])):
  (w.frozen? ⟨g,l.length*5,none⟩=false∧w.frozen? ⟨g,l.length*5+1,none⟩=false∧w.frozen? ⟨g,l.length*5+2,none⟩=false∧w.frozen? ⟨g,l.length*5+3,none⟩=false∧w.frozen? ⟨g,l.length*5+4,none⟩=false)∧w.cell? ⟨g,l.length*5,none⟩=some (.int .i64 0)∧w.cell? ⟨g,l.length*5+1,none⟩=some (.string ⟨#[]⟩)∧w.cell? ⟨g,l.length*5+2,none⟩=some (.slice none 0 0)∧w.cell? ⟨g,l.length*5+3,none⟩=some (.int .i64 0)∧w.cell? ⟨g,l.length*5+4,none⟩=some (.int .i64 0)∧g<w.heap.size:=by
 have h0:=h.own
 rw [List.length_append,List.length_singleton] at h0
 obtain⟨hlt,hb⟩:=aa6 h0 (g:=g) rfl
 have hcell:=fun i (hi:i<5)=>(h0.cellAt (l.length*5+i) (by omega)).trans (ap1 (l++ [(Nd.zero,none,0)]) l.length i (by simp) hi)
 have e:(l++ [((Nd.zero,none,0):Kd)])[l.length]'(by simp)=(Nd.zero,none,0):=by simp
 simp only [e] at hcell
 refine⟨?_,hcell 0 (by decide),hcell 1 (by decide),hcell 2 (by decide),hcell 3 (by decide),hcell 4 (by decide),hlt⟩
 rcases h0.2 with ⟨hv,_⟩|⟨g',cap',cur,hv,_,hc,_⟩
 ·cases hv
 ·have e1:g=g':=by
   injection hv with a b c
   injection a with a
   injection a
  subst e1
  have hf:=fun i=>frozen_of_row w g i _ _ hc
  exact⟨hf _,hf _,hf _,hf _,hf _⟩
end
end
end Go.Proofs.YtnobjeelihkjmaaGreatDoor
