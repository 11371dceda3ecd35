/- Steps (Qd Qm Qs Qp). Conditions: as stated. -/
import Derived.Test.YtnobjeelihkjmaaGreatDoorZk04
import Derived.Test.YtnobjeelihkjmaaGreatDoorZk07
import Derived.Test.YtnobjeelihkjmaaGreatDoorZk08
import Derived.Test.YtnobjeelihkjmaaGreatDoorZk11
set_option maxHeartbeats 2000000
set_option maxRecDepth 20000
namespace Go.Proofs.YtnobjeelihkjmaaGreatDoor
section
open Go.RowKit
attribute [local go_sem] ab3 ab4 ab5 ab6 ab7 ab8
theorem bL7 {a b:ByteArray} (h:a≠b):(a.toList==b.toList)=false:=by
 rw [beq_eq_false_iff_ne]
 intro e
 rw [Lib.toList_data,Lib.toList_data] at e
 apply h
 cases a;cases b;congr 1;exact Array.toList_inj.1 e
def ixS (s:ByteArray):List ByteArray→Nat→Int
 | [],_=> -1
 |x::xs,i=>if s=x then (i:Int) else ixS s xs (i+1)
theorem bl2 (s:ByteArray): ∀(l:List ByteArray) (i:Nat),(0≤ixS s l i)↔s ∈ l
 | [],i=>by rw [ixS];simp
 |x::xs,i=>by
  rw [ixS,List.mem_cons]
  split
  ·rename_i h
   exact⟨fun _=> .inl h,fun _=>by omega⟩
  ·rename_i h
   rw [bl2 s xs (i+1)]
   exact⟨.inr,fun h2=>h2.resolve_left h⟩
theorem bt2 {s:ByteArray} {l:List ByteArray} {k:Nat} (h:k<l.length):ixS s (l.drop k) k=if s=l[k] then (k:Int) else ixS s (l.drop (k+1)) (k+1):=by
 rw [List.drop_eq_getElem_cons h,ixS]
theorem bk8 (s:ByteArray) (ss:List ByteArray) (g c:Nat) (w:World) (hg:g<w.heap.size) (hlen:ss.length≤16777216) (hrow: ∀j,(h:j<ss.length)→w.cell? ⟨g,j,none⟩=some (.string ss[j])):
  Calls Tryz.prog 146 #[.slice (some ⟨g,0,none⟩) ss.length c,.string s] w fun e w'=>e= .returned (.int .i64 (ixS s ss 0))∧w=w':=by
 have HR:=hJ hrow
 obtain⟨B,hB⟩: ∃B,ixS s ss 0=B:=⟨_,rfl⟩
 rw [hB]
 have HB:=hJ (show ixS s (ss.drop 0) 0=B by rw [List.drop_zero];exact hB)
 clear hrow hB
 go_enter Tryz.func146,Tryz.ntmps146
 go_wp2_with fail
 go_loopw [8] (fun i wr=> ∃k:Nat,k≤ss.length∧i= .int .i64 k∧wr=w∧Hid (ixS s (ss.drop k) k=B)) (fun i _=>ss.length - (intOf i).toNat)
 case atStart=>exact⟨0,Nat.zero_le _,rfl,rfl,HB⟩
 case round=>
  clear HB
  obtain⟨k,hk,rfl,rfl,HX⟩:=hrel
  by_cases hlt:k<ss.length
  ·have hc:=HR.out k hlt
   have HD:=hJ (bt2 (s:=s) hlt)
   generalize ss[k]=x at*
   by_cases he:s=x
   ·have HA:=hJ (show B=(k:Int) by rw [←HX.out,HD.out,if_pos he])
    subst he
    have h2:(s.toList==s.toList)=true:=by rw [beq_iff_eq]
    go_wp2_with fail
    go_ret
    exact⟨by rw [HA.out];rfl,rfl⟩
   ·have HA:=hJ (show ixS s (ss.drop (k+1)) (k+1)=B by rw [←HX.out,HD.out,if_neg he])
    have h2:=bL7 he
    clear he
    go_wp2_with fail
    go_roundw
    case rel=>exact⟨k+1,hlt,by go_num,by trivial,HA⟩
    case measure=>simp [intOf];omega
  ·obtain rfl:k=ss.length:=by omega
   have HA:=hJ (show B= -1 by rw [←HX.out,List.drop_length,ixS])
   go_wp2_with fail
   go_ret
   exact⟨by rw [HA.out];rfl,rfl⟩
def hasS (s:ByteArray) (ss:List ByteArray):Bool:=decide (0≤ixS s ss 0)
theorem bs6 (s:ByteArray) (ss:List ByteArray):hasS s ss=true↔s ∈ ss:=by rw [hasS,decide_eq_true_eq,bl2]
theorem aK6 (s:ByteArray) (ss:List ByteArray) (g c:Nat) (w:World) (hg:g<w.heap.size) (hlen:ss.length≤16777216) (hrow: ∀j,(h:j<ss.length)→w.cell? ⟨g,j,none⟩=some (.string ss[j])):
  Calls Tryz.prog 78 #[.slice (some ⟨g,0,none⟩) ss.length c,.string s] w fun e w'=>e= .returned (.bool (hasS s ss))∧w=w':=by
 have HI:=hJ (bk8 s ss g c w hg hlen hrow)
 have HD:=hJ (show hasS s ss=decide (0≤ixS s ss 0) from rfl)
 generalize ixS s ss 0=z at*
 generalize hasS s ss=B at*
 clear hrow
 go_enter Tryz.func78,Tryz.ntmps78
 go_wp2_with (go_at_call 146;refine HI.out.mono ?_;rintro e w2 ⟨rfl,rfl⟩)
 go_ret
 exact⟨by rw [HD.out];rfl,rfl⟩
theorem bs7 (s:ByteArray) (l:List ByteArray):hasS s l=ao0 s l:=by
 rw [Bool.eq_iff_iff,bs6,ao0,List.any_eq_true]
 simp
def aK1 (l:List ByteArray):Obj:= .cells (l.map fun x=>Value.string x).toArray 9
theorem aY3 (w:World) (l:List ByteArray) (j:Nat) (h:j<l.length):(w.alloc (aK1 l)).cell? ⟨w.heap.size,j,none⟩=some (.string l[j]):=by
 unfold aK1
 rw [cell_of_row _ w.heap.size j _ _ _ (heap_alloc_new w _)]
 simp [h]
theorem aN3 (s:ByteArray) (l:List ByteArray) (w:World) {g m:Nat} (hg:w.heap.size=g) (hm:l.length=m) (hl:m≤16777216):
  Calls Tryz.prog 78 #[.slice (some ⟨g,0,none⟩) m m,.string s] (w.alloc (aK1 l)) fun e w'=>e= .returned (.bool (ao0 s l))∧w.alloc (aK1 l)=w':=by
 subst hg hm
 rw [←bs7]
 exact aK6 s l _ _ _ (by simp) hl (fun j h=>aY3 w l j h)
def asgW:List ByteArray:= [⟨#[61]⟩,⟨#[43,61]⟩,⟨#[45,61]⟩,⟨#[42,61]⟩,⟨#[47,61]⟩,⟨#[37,61]⟩,⟨#[42,42,61]⟩,⟨#[60,60,61]⟩,⟨#[62,62,61]⟩,⟨#[62,62,62,61]⟩,⟨#[38,61]⟩,⟨#[124,61]⟩,⟨#[94,61]⟩,⟨#[38,38,61]⟩,⟨#[124,124,61]⟩,⟨#[63,63,61]⟩]
theorem bc9 (w:World) (h:Lx w):Calls Tryz.prog 79 #[.string ⟨#[61,32,43,61,32,45,61,32,42,61,32,47,61,32,37,61,32,42,42,61,32,60,60,61,32,62,62,61,32,62,62,62,61,32,38,61,32,124,61,32,94,61,32,38,38,61,32,124,124,61,32,63,63,61]⟩] w fun e w'=>e= .returned (.slice (some ⟨w.heap.size,0,none⟩) 16 16)∧w'=w.alloc (aK1 asgW):=by
 have ha: ∀b ∈ (⟨#[61,32,43,61,32,45,61,32,42,61,32,47,61,32,37,61,32,42,42,61,32,60,60,61,32,62,62,61,32,62,62,62,61,32,38,61,32,124,61,32,94,61,32,38,38,61,32,124,124,61,32,63,63,61]⟩:ByteArray).data.toList,b.toNat<128:=by decide+kernel
 have hf:=Tryz.strings_Fields ⟨#[61,32,43,61,32,45,61,32,42,61,32,47,61,32,37,61,32,42,42,61,32,60,60,61,32,62,62,61,32,62,62,62,61,32,38,61,32,124,61,32,94,61,32,38,38,61,32,124,124,61,32,63,63,61]⟩ w (by decide+kernel) (fun j b hj=>ha b (List.mem_of_getElem? hj)) h.spc
 have e:Lib.fields (⟨#[61,32,43,61,32,45,61,32,42,61,32,47,61,32,37,61,32,42,42,61,32,60,60,61,32,62,62,61,32,62,62,62,61,32,38,61,32,124,61,32,94,61,32,38,38,61,32,124,124,61,32,63,63,61]⟩:ByteArray).data.toList= [[61],[43,61],[45,61],[42,61],[47,61],[37,61],[42,42,61],[60,60,61],[62,62,61],[62,62,62,61],[38,61],[124,61],[94,61],[38,38,61],[124,124,61],[63,63,61]]:=by decide+kernel
 rw [e] at hf
 exact hf
theorem aK4 (t:Tk) (w:World) (h:Lx w):Calls Tryz.prog 85 #[.agg #[.int .i64 t.kind,.string t.text,.int .i64 t.from',.int .i64 t.till,.bool t.line]] w fun e w'=>e= .returned (.bool (an3 t))∧Below w.heap.size w w':=by
 have hB:=(Below.alloc (Below.refl _ w) (Nat.le_refl _) (.cells #[.int .i64 t.kind,.string t.text,.int .i64 t.from',.int .i64 t.till,.bool t.line] 49))
 have hB2:=Below.drew hB
 have HF:=hJ (bc9 _ (h.bel hB2))
 have HC:=hJ (aN3 t.text asgW (w.alloc (.cells #[.int .i64 t.kind,.string t.text,.int .i64 t.from',.int .i64 t.till,.bool t.line] 49)).drew (g:=w.heap.size+1) (m:=16) (by simp) (by decide) (by decide))
 have hA:an3 t=(decide (t.kind=5) && ao0 t.text asgW):=rfl
 rw [hA]
 clear hA h
 generalize ao0 t.text asgW=b at*
 by_cases hk:t.kind=5
 ·have h1:(t.kind==5)=true:=by rw [beq_iff_eq];exact hk
  have HK:=hJ hk
  have hB3:=hB2.alloc (Nat.le_trans (Nat.le_refl _) hB2.size) (aK1 asgW)
  clear hk
  go_enter Tryz.func85,Tryz.ntmps85
  go_wp2_with fail
  go_region_with (first|(go_at_call 79;refine HF.out.mono ?_;rintro e w2 ⟨rfl,rfl⟩)|(go_at_call 78;refine HC.out.mono ?_;rintro e w2 ⟨rfl,rfl⟩))
  all_goals
   go_wp2_with fail
   go_ret
   exact⟨by rw [decide_eq_true HK.out];rfl,hB3⟩
 ·have h1:(t.kind==5)=false:=by rw [beq_eq_false_iff_ne];exact hk
  have HK:=hJ hk
  clear hk
  go_enter Tryz.func85,Tryz.ntmps85
  go_wp2_with fail
  go_quiet (fail)
  go_wp2_with fail
  go_ret
  exact⟨by rw [decide_eq_false HK.out];rfl,by first|exact hB2|exact aa3 hB _⟩
end
section
open Go.RowKit Go.Maps
theorem bq0 {P:Program} {ops:Array Oper} {o:Oper} {a:Act} {K:Act→World→Prop} {Q:Exit→Act→World→Prop} {G:Prop} {w w':World} (hgd:o.guard=none) (m x v:Operand) (t:TypeId) (ho:o.op= .mapUpdate t m x v) {mv key val:Value} (hm:a.eval m=mv) (hx:a.eval x=key) (hv:a.eval v=val)
  (hr:(Instr.mapUpdate t mv key val).run P w= .ok () w') (hk:K (a.put o.dst undef) w'):if Region.wanted o (yielded ops a.tmps)=true then Oper.wp P o a w K Q else G:=by
 rw [if_pos (by simp [Region.wanted,hgd])]
 unfold Oper.wp
 simp [execOp,ho,hm,hx,hv,hr,Result.andThen]
 exact hk
theorem bz4 (w:World):(zeroValue 3).run Tryz.prog w= .ok (.int .i64 0) w:=by kernel_rfl
theorem bl4 {k:Int} (hk:okI k=true):Keyed Tryz.prog 3∧keyOf Tryz.prog 3 (.int .i64 k)=some (.int .i64 k):=by
 refine⟨int_keyed Tryz.underlying3,keyOf_int_mk Tryz.underlying3 ?_⟩
 unfold okI at hk
 simp only [Bool.and_eq_true,decide_eq_true_eq] at hk
 have e:wrap64 k=k:=by
  unfold wrap64
  omega
 rw [←e]
 exact wrap64_wf k
theorem bK9 {k:Int} (hk:okI k=true):(Lit.int .i64 k).wf=true:=by
 unfold okI at hk
 simp only [Bool.and_eq_true,decide_eq_true_eq] at hk
 have e:wrap64 k=k:=by
  unfold wrap64
  omega
 rw [←e]
 exact wrap64_wf k
theorem com_put {D:DataW Unit} {c:List (Int × Int)} (h:ComD D c) (ht:Tidy D) (k u:Int) (d:DataW Unit):ComD (D.put (.int .i64 k) d) ((k,u)::c):=by
 refine⟨fun j=> ?_,⟨fun e=> ?_,fun e=>by cases e⟩⟩
 ·show _=(decide (k=j)||hasC c j)
  by_cases hj:j=k
  ·subst hj
   rw [has_put_same ht.isMap (show WideAt.IsKeyLit (.int .i64 j) from trivial),decide_eq_true rfl]
   rfl
  ·rw [has_put_other (by rintro⟨⟩;exact hj rfl),h.1,decide_eq_false (Ne.symm hj),Bool.false_or]
 ·rw [size_put ht] at e
  split at e
  ·rename_i hh
   rw [h.1,h.2.1 e] at hh
   cases hh
  ·omega
section
variable {E:PE} {F:Nat→Prop} {w:World} {p:Ps}
theorem St.look (h:St E F w p) {k:Int} (hk:okI k=true): ∃mb v,w.cell? ⟨E.b,14,none⟩=some (.map (some mb))∧(Instr.lookup 59 (.map (some mb)) (.int .i64 k) true).run Tryz.prog w= .ok (.tuple #[v,.bool (hasC p.commas k)]) w:=by
 obtain⟨va,vc,mb,D,hO⟩:=h.open
 obtain⟨K,hkey⟩:=bl4 hk
 obtain⟨v,ps,hrun,_⟩:=hO.map.look_ok K Tryz.underlying59 (bz4 w) (plainElem_int (H:=Unit) Tryz.underlying3 (by decide)) hkey
 exact⟨mb,v,by rw [cell_of_row w E.b 14 _ _ _ hO.hb];rfl,by rw [hrun,hO.com.1]⟩
theorem St.clen (h:St E F w p): ∃mb n,w.cell? ⟨E.b,14,none⟩=some (.map (some mb))∧(∀ty,(Builtin.len_ #[59] ty #[.map (some mb)]).run Tryz.prog w= .ok (.int .i64 ((n:Nat):Int)) w)∧(n=0↔p.commas= []):=by
 obtain⟨va,vc,mb,D,hO⟩:=h.open
 exact⟨mb,Maps.size D,by rw [cell_of_row w E.b 14 _ _ _ hO.hb];rfl,fun ty=>hO.map.len Tryz.underlying59 ty,hO.com.2⟩
theorem St.com_put (h:St E F w p) {k u:Int} (hk:okI k=true) (hu:okI u=true) (hl:p.commas.length≤4194304):
  ∃mb,w.cell? ⟨E.b,14,none⟩=some (.map (some mb))∧∃w',(Instr.mapUpdate 59 (.map (some mb)) (.int .i64 k) (.int .i64 u)).run Tryz.prog w= .ok () w'∧St E F w' { p with commas:=(k,u)::p.commas } ∧PB E.b X0 w w':=by
 obtain⟨va,vc,mb,D,hO⟩:=h.open
 obtain⟨K,hkey⟩:=bl4 hk
 obtain⟨w',hrun,hm,ht⟩:=hO.map.store K Tryz.underlying59 (by unfold maxLen;omega) hkey (plainElem_int (H:=Unit) Tryz.underlying3 (bK9 hu))
 have hg:=ht.grown
 have ho:Only (fun k=>k=mb) w w':=⟨hg.os,hg.tape,hg.output,hg.size,fun i hi hn=>hg.block i hi fun e=>hn (by first|exact(Option.some.inj e)|exact(Option.some.inj e).symm)⟩
 have hlt:E.b<w.heap.size:=(Array.getElem?_eq_some_iff.1 hO.hb).1
 have h2:StO E F w' { p with commas:=(k,u)::p.commas } va vc mb _:= { hb:=(ho.block E.b hlt (Ne.symm hO.mbb)).trans hO.hb,ah:=ad0 hO.ah fun g hg hl=>ho.block g hl (hO.ahF g hg).2.2.2.2,ahF:=fun g hg=>⟨Nat.lt_of_lt_of_le (hO.ahF g hg).1 ho.size,(hO.ahF g hg).2⟩,cm:=ad0 hO.cm fun g hg hl=>ho.block g hl fun e=>hO.cmb (e▸hg),cb:=hO.cb,cmb:=hO.cmb,mbb:=hO.mbb,mb0:=hO.mb0,map:=hm,com:=Go.Proofs.YtnobjeelihkjmaaGreatDoor.com_put hO.com (hO.map.tidy K) k u _,fo:=fun k hk=>⟨(hO.fo k hk).1,Nat.lt_of_lt_of_le (hO.fo k hk).2.1 ho.size,(hO.fo k hk).2.2⟩,bel:=⟨ho.os.trans hO.bel.os,ho.tape.trans hO.bel.tape,ho.output.trans hO.bel.output,Nat.le_trans hO.bel.size ho.size,fun k hk=>(ho.block k (Nat.lt_of_lt_of_le hk hO.bel.size) (by have:=hO.mb0;omega)).trans (hO.bel.block k hk)⟩,nst:=hO.nst }
 exact⟨mb,by rw [cell_of_row w E.b 14 _ _ _ hO.hb];rfl,w',hrun,h2.st,hO.pb h2 (ho.mono fun _ e=> .inr (.inr e)) (fun _ hk=> .inl hk) rfl⟩
theorem Pc.kidP {n:Nd} {a:Option Addr} {cap:Nat} (h:IsP E F w n (.agg #[.int .i64 n.kind,.string n.text,.slice a n.kids.length cap,.int .i64 n.from',.int .i64 n.till])) {j:Nat} (hj:j<n.kids.length):
  ∃g off b c,a=some ⟨g,off,none⟩∧g<w.heap.size∧w.cell? ⟨g,off+j*5,none⟩=some (.int .i64 n.kids[j].kind)∧w.cell? ⟨g,off+j*5+1,none⟩=some (.string n.kids[j].text)∧
   w.cell? ⟨g,off+j*5+2,none⟩=some (.slice b n.kids[j].kids.length c)∧w.cell? ⟨g,off+j*5+3,none⟩=some (.int .i64 n.kids[j].from')∧w.cell? ⟨g,off+j*5+4,none⟩=some (.int .i64 n.kids[j].till)∧
   IsP E F w n.kids[j] (.agg #[.int .i64 n.kids[j].kind,.string n.kids[j].text,.slice b n.kids[j].kids.length c,.int .i64 n.kids[j].from',.int .i64 n.kids[j].till]):=by
 obtain⟨b,c,hv,hc,hr⟩:=h
 have e:b=a:=by
  simp only [Value.agg.injEq] at hv
  have:=congrArg (fun c:Array Value=>c[2]?) hv
  simp at this
  exact this.1.symm
 subst e
 obtain⟨g,off,b2,c2,ha,hs,c0,c1,c2',c3,c4,hc2,hr2⟩:=Pc.kid hr j hj
 exact⟨g,off,b2,c2,ha,hs.1,c0,c1,c2',c3,c4,b2,c2,rfl,hc2,hr2⟩
end
end
section
open Go.RowKit
theorem bp5 (l:List Value) (y0 y1 y2 y3 y4 u0 u1 u2 u3 u4:Value):
  (((((l++ [y0,y1,y2,y3,y4]).set l.length u0).set (l.length+1) u1).set (l.length+2) u2).set (l.length+3) u3).set (l.length+4) u4=l++ [u0,u1,u2,u3,u4]:=by
 simp
section
variable {E:PE} {F F1 X:Nat→Prop} {w:World} {p:Ps} {base g cap:Nat} {l:List Kd}
theorem KsO.setLast (hs:St E F w p) {y x:Kd} (h:KsO E F w base (.slice (some ⟨g,0,none⟩) (l.length+1) cap) (l++ [y])) (hx:KdOk E F w x) {W:World}
  (hW:W=(((((w.setCell ⟨g,l.length*5,none⟩ (.int .i64 x.1.kind)).setCell ⟨g,l.length*5+1,none⟩ (.string x.1.text)).setCell ⟨g,l.length*5+2,none⟩ (.slice x.2.1 x.1.kids.length x.2.2)).setCell ⟨g,l.length*5+3,none⟩ (.int .i64 x.1.from')).setCell ⟨g,l.length*5+4,none⟩ (.int .i64 x.1.till))):
  KsO E F W base (.slice (some ⟨g,0,none⟩) (l.length+1) cap) (l++ [x])∧Only (fun k=>k=g) w W∧F g:=by
 have hF:F g:=h.inF g rfl
 have ho:Only (fun k=>k=g) w W:=by
  rw [hW]
  have s:=fun(a:World) (j:Nat) (u:Value) (ha:Only (fun k=>k=g) w a)=>Only.setCell (X:=fun k=>k=g) ha (p:=⟨g,j,none⟩) (.inl rfl) u
  exact s _ _ _ (s _ _ _ (s _ _ _ (s _ _ _ (s _ _ _ (Only.refl _ w)))))
 have hoF:Only F w W:=ho.mono fun k hk=>by subst hk;exact hF
 refine⟨⟨?_,fun z hz=> ?_,fun k hk=>h.inF k hk⟩,ho,hF⟩
 ·have h0:=h.own
  rw [List.length_append,List.length_singleton,List.flatMap_append] at h0⊢
  have hr:=ae3 (ae3 (ae3 (ae3 (ae3 h0 (l.length*5) (.int .i64 x.1.kind)) (l.length*5+1) (.string x.1.text)) (l.length*5+2) (.slice x.2.1 x.1.kids.length x.2.2)) (l.length*5+3) (.int .i64 x.1.from')) (l.length*5+4) (.int .i64 x.1.till)
  rw [←hW] at hr
  have e:([y].flatMap aa8)= [Value.int .i64 y.1.kind,.string y.1.text,.slice y.2.1 y.1.kids.length y.2.2,.int .i64 y.1.from',.int .i64 y.1.till]:=rfl
  have e2:([x].flatMap aa8)= [Value.int .i64 x.1.kind,.string x.1.text,.slice x.2.1 x.1.kids.length x.2.2,.int .i64 x.1.from',.int .i64 x.1.till]:=rfl
  rw [e,←ay2 l,bp5] at hr
  rw [e2]
  exact hr
 ·rcases List.mem_append.1 hz with hz|hz
  ·exact(h.is z (List.mem_append_left _ hz)).only hoF hs.lt hs.notF
  ·simp only [List.mem_cons,List.not_mem_nil,or_false] at hz
   subst hz
   exact hx.only hoF hs.lt hs.notF
theorem KsO.last (h:KsO E F w base (.slice (some ⟨g,0,none⟩) (l.length+1) cap) (l++ [(Nd.zero,none,0)])):
  (w.frozen? ⟨g,l.length*5,none⟩=false∧w.frozen? ⟨g,l.length*5+1,none⟩=false∧w.frozen? ⟨g,l.length*5+2,none⟩=false∧w.frozen? ⟨g,l.length*5+3,none⟩=false∧w.frozen? ⟨g,l.length*5+4,none⟩=false)∧w.cell? ⟨g,l.length*5,none⟩=some (.int .i64 0)∧w.cell? ⟨g,l.length*5+1,none⟩=some (.string ⟨#[]⟩)∧w.cell? ⟨g,l.length*5+2,none⟩=some (.slice none 0 0)∧w.cell? ⟨g,l.length*5+3,none⟩=some (.int .i64 0)∧w.cell? ⟨g,l.length*5+4,none⟩=some (.int .i64 0)∧g<w.heap.size:=by
 have h0:=h.own
 rw [List.length_append,List.length_singleton] at h0
 obtain⟨hlt,hb⟩:=aa5 h0 (g:=g) rfl
 have hcell:=fun i (hi:i<5)=>(h0.cellAt (l.length*5+i) (by omega)).trans (an4 (l++ [(Nd.zero,none,0)]) l.length i (by simp) hi)
 have e:(l++ [((Nd.zero,none,0):Kd)])[l.length]'(by simp)=(Nd.zero,none,0):=by simp
 simp only [e] at hcell
 refine⟨?_,hcell 0 (by decide),hcell 1 (by decide),hcell 2 (by decide),hcell 3 (by decide),hcell 4 (by decide),hlt⟩
 rcases h0.2 with ⟨hv,_⟩|⟨g',cap',cur,hv,_,hc,_⟩
 ·cases hv
 ·have e1:g=g':=by
   injection hv with a b c
   injection a with a
   injection a
  subst e1
  have hf:=fun i=>frozen_of_row w g i _ _ hc
  exact⟨hf _,hf _,hf _,hf _,hf _⟩
end
end
section
open Go.RowKit
namespace Cd
def RowF (w:World) (L B:Nat) (x:Nd) (b:Option Addr) (c:Nat):Prop:=x.kids.length≤c∧RowP w L B x.kids b 0
theorem RowF.keeps:bc3 RowF:=⟨fun hL hB hk ⟨h1,h2⟩=>⟨h1,ag9 hL hB hk h2⟩⟩
theorem ndc {w:World} {L B:Nat} {x:Nd} {g o:Nat} (h:bc4 RowF w L B x g o):NdC w L B x g o:=by
 obtain⟨h1,h2,_,_,b,cap,hc,h3,h4⟩:=h
 rw [ai9]
 exact⟨b,cap,h1,h2,hc 0 (by decide),hc 1 (by decide),hc 2 (by decide),hc 3 (by decide),hc 4 (by decide),h3,h4⟩
theorem row {w:World} {base:Nat} {v:Value} {xs:List Nd} (h:KRow RowF w base v xs): ∃b cap,v= .slice b xs.length cap∧xs.length≤cap∧RowP w base w.heap.size xs b 0:=by
 obtain⟨b,cap,rfl,hn,hk⟩:=h.at' RowF.keeps
 refine⟨b,cap,rfl,hn,ao7 fun j hj=> ?_⟩
 obtain⟨g,rfl,hx⟩:=hk j hj
 exact⟨g,0,rfl,by rw [Nat.zero_add,Nat.zero_add];exact ndc hx⟩
theorem nds {w:World} {L B:Nat} {S:Nat→Prop} (hS: ∀k,L≤k→k<B→S k) (n:Nd): ∀g o,NdC w L B n g o→NdS w S n g o:=by
 induction n using Nd.ind with
 |h n ih=>
  intro g o h
  rw [ai9] at h
  rw [aq2]
  obtain⟨b,cap,h1,h2,c0,c1,c2,c3,c4,hc,hr⟩:=h
  exact⟨b,cap,hS g h1 h2,c0,c1,c2,c3,c4,hc,at3 fun j hj=>by
   obtain⟨g',off,ha,hn⟩:=af0 hr j hj
   exact⟨g',off,ha,ih _ (List.getElem_mem hj) _ _ hn⟩⟩
theorem rowS {w:World} {L B:Nat} {S:Nat→Prop} (hS: ∀k,L≤k→k<B→S k) {ks:List Nd} {a:Option Addr} {i:Nat} (h:RowP w L B ks a i):RowS w S ks a i:=
 at3 fun j hj=>by
  obtain⟨g,off,ha,hn⟩:=af0 h j hj
  exact⟨g,off,ha,nds hS _ _ _ hn⟩
theorem kids_le: ∀ks:List Nd,ks.length≤ag7 ks
 | []=>Nat.le_refl _
 |k::ks=>by
  have:=kids_le ks
  have h:=Pc.size_pos k
  rw [ag7,List.length_cons]
  omega
def Box (w:World) (p:Nat) (k:Int) (t:ByteArray) (v:Value) (f u:Int):Prop:=w.heap[p]? =some (.cells #[.int .i64 k,.string t,v,.int .i64 f,.int .i64 u] 27 (0,0))
section
variable {w w':World} {p q:Nat} {k f u:Int} {t:ByteArray} {v:Value}
theorem Box.lt (h:Box w p k t v f u):p<w.heap.size:=(Array.getElem?_eq_some_iff.1 h).1
theorem Box.bel (h:Box w p k t v f u) (hb:Below w.heap.size w w'):Box w' p k t v f u:=(hb.block p h.lt).trans h
theorem Box.same (h:Box w p k t v f u) (hk:w'.heap[p]? =w.heap[p]?):Box w' p k t v f u:=hk.trans h
theorem Box.alloc (h:Box w p k t v f u) (o:Obj):Box (w.alloc o) p k t v f u:=(Below.heap_alloc w o p h.lt).trans h
theorem Box.new (h:w.heap.size=p):Box (w.alloc (.cells #[.int .i64 k,.string t,v,.int .i64 f,.int .i64 u] 27)) p k t v f u:=by
 subst h
 exact heap_alloc_new _ _
theorem Box.set2 (h:Box w p k t v f u) (v':Value):Box (w.setCell ⟨p,2,none⟩ v') p k t v' f u:=heap_setCell_same w p 2 _ 27 v' h
theorem Box.fs (h:Box w p k t v f u):w.cell? ⟨p,0,none⟩=some (.int .i64 k)∧w.cell? ⟨p,1,none⟩=some (.string t)∧w.cell? ⟨p,2,none⟩=some v∧w.cell? ⟨p,3,none⟩=some (.int .i64 f)∧w.cell? ⟨p,4,none⟩=some (.int .i64 u)∧
  w.frozen? ⟨p,0,none⟩=false∧w.frozen? ⟨p,1,none⟩=false∧w.frozen? ⟨p,2,none⟩=false∧w.frozen? ⟨p,3,none⟩=false∧w.frozen? ⟨p,4,none⟩=false:=
 ⟨cell_of_row w p 0 _ _ _ h,cell_of_row w p 1 _ _ _ h,cell_of_row w p 2 _ _ _ h,cell_of_row w p 3 _ _ _ h,cell_of_row w p 4 _ _ _ h,frozen_of_row w p 0 _ _ h,frozen_of_row w p 1 _ _ h,frozen_of_row w p 2 _ _ h,frozen_of_row w p 3 _ _ h,frozen_of_row w p 4 _ _ h⟩
end
theorem five_one {a:Int} {t:ByteArray} {b:Option Addr} {m c:Nat} {f u:Int} : ∀y ∈ ([.int .i64 a,.string t,.slice b m c,.int .i64 f,.int .i64 u]:List Value),y.oneCell'=true:=by
 intro y hy
 simp only [List.mem_cons,List.not_mem_nil,or_false] at hy
 rcases hy with rfl|rfl|rfl|rfl|rfl<;>rfl
theorem push_far {w2 w3:World} {o:Obj} {v:Value} {r n i:Nat} {ys:List Value} (hg:(w2.alloc o).grownBy w3 v.ownBlock) (ho:w2.ownsRow (r+1) 27 5 v n ys) (hr:r<w2.heap.size) (hi:i≤r):w3.heap[i]? =w2.heap[i]? :=by
 refine(hg.block i (by rw [World.size_alloc];omega) (fun e=> ?_)).trans (Below.heap_alloc _ _ _ (by omega))
 have:=(ho.lt i e.symm).1
 omega
structure CdS (w0:World) (p q:Nat) (n:Nd) (vk:Value) (k:Nat) (wr:World):Prop where
 out:Box wr p n.kind n.text vk n.from' n.till
 res:Box wr q 0 ⟨#[]⟩ (.slice none 0 0) 0 0
 kr:KRow RowF wr (q+1) vk (n.kids.take k)
 bel:Below w0.heap.size w0 wr
 hp:w0.heap.size≤p
 pq:p<q
 hq:q<wr.heap.size
theorem use {f:Nat} {w0 wr W:World} {p q:Nat} {n x:Nd} {vk:Value} {k:Nat} {args:Array Value} (h:CdS w0 p q n vk k wr) (hk2:k≤n.kids.length) (hW:Below wr.heap.size wr W)
  (hc:Calls Tryz.prog f args W fun e w'=> ∃u,e= .returned u∧NdV w' W.heap.size w'.heap.size x u∧Below W.heap.size W w'):
  Calls Tryz.prog f args W fun e w'=> ∃bu cu,e= .returned (.agg #[.int .i64 x.kind,.string x.text,.slice bu x.kids.length cu,.int .i64 x.from',.int .i64 x.till])∧RowF w' wr.heap.size w'.heap.size x bu cu∧Below wr.heap.size wr w'∧
   KRow RowF w' (q+1) vk (n.kids.take k)∧(n.kids.take k).length=k∧
   w'.cell? ⟨p,2,none⟩=some vk∧w'.frozen? ⟨p,2,none⟩=false∧p<w'.heap.size∧q<w'.heap.size:=by
 refine hc.mono fun e w'=> ?_
 rintro⟨u,rfl,⟨bu,cu,rfl,hru⟩,hb⟩
 have hb2:=hW.trans (hb.mono hW.size)
 have ho:=h.out.bel hb2
 obtain⟨_,_,e2,_,_,_,_,f2,_,_⟩:=ho.fs
 have hq:=h.hq
 have hsz:=hb2.size
 exact⟨bu,cu,rfl,RowF.keeps.k hW.size (Nat.le_refl _) (fun _ _ _=>rfl) hru,hb2,h.kr.bel RowF.keeps hb2,by rw [List.length_take];omega,e2,f2,ho.lt,by omega⟩
theorem CdS.step {w0 wr w2 w3:World} {p q:Nat} {n x:Nd} {bu:Option Addr} {cu:Nat} {vk:Value} {k g cap1:Nat} {o:Obj} (h:CdS w0 p q n vk k wr) (hk:k<n.kids.length) (hx:n.kids[k]=x)
  (hb2:Below wr.heap.size wr w2) (hru:RowF w2 wr.heap.size w2.heap.size x bu cu) (hkr2:KRow RowF w2 (q+1) vk (n.kids.take k)) (hlen:(n.kids.take k).length=k)
  (ho:w3.ownsRow (q+1) 27 5 (.slice (some ⟨g,0,none⟩) (k+1) cap1) (k+1) (hkr2.cells++(aa7 x.kind x.text bu x.kids.length cu x.from' x.till).toList))
  (hg:(w2.alloc o).grownBy w3 vk.ownBlock) (hat:vk.ownBlock=some g∨g=w2.heap.size+1) (hq2:q<w2.heap.size):
  CdS w0 p q n (.slice (some ⟨g,0,none⟩) (k+1) cap1) (k+1) (w3.setCell ⟨p,2,none⟩ (.slice (some ⟨g,0,none⟩) (k+1) cap1)):=by
 have hown:=hkr2.own hlen
 have hpq:=h.pq
 have hq:=h.hq
 have hp:=h.hp
 have hlow:Below w0.heap.size wr (w3.setCell ⟨p,2,none⟩ (.slice (some ⟨g,0,none⟩) (k+1) cap1)):=by
  have h3:Below p w2 w3:=by
   refine((Below.refl p w2).alloc (by omega) o).grown hg (by rw [World.size_alloc];omega) (fun i e=> ?_)
   have:=(hown.lt i e).1
   omega
  exact(((hb2.mono (by omega)).trans h3).mono hp).setCell (p:=⟨p,2,none⟩) hp _
 have hz3:=hg.size
 rw [World.size_alloc] at hz3
 have hkr:KRow RowF w3 (q+1) (.slice (some ⟨g,0,none⟩) (k+1) cap1) (n.kids.take k++ [x]):=
  KRow.push RowF.keeps hkr2 hlen (by omega) (fun i e=>((h.kr.own hlen).lt i e).2) (Nat.le_refl _) hru ho hg hat
 refine⟨?_,?_,?_,h.bel.trans hlow,hp,hpq,?_⟩
 ·have h1:Box w3 p n.kind n.text vk n.from' n.till:=(push_far hg hown hq2 (by omega)).trans (h.out.bel hb2)
  exact heap_setCell_same w3 p 2 _ 27 (.slice (some ⟨g,0,none⟩) (k+1) cap1) h1
 ·exact(Below.heap_setCell _ _ _ _ (by show q≠p;omega)).trans ((push_far hg hown hq2 (Nat.le_refl _)).trans (h.res.bel hb2))
 ·rw [List.take_succ_eq_append_getElem hk,hx]
  exact hkr.high RowF.keeps (by simp [World.setCell]) (fun i h1 _=>Below.heap_setCell _ _ _ _ (by show i≠p;omega))
 ·simp only [World.setCell,Array.size_modify]
  omega
def lay5 (w:World) (q:Nat) (k:Int) (t:ByteArray) (v:Value) (f u:Int):World:=((((w.setCell ⟨q,0,none⟩ (.int .i64 k)).setCell ⟨q,1,none⟩ (.string t)).setCell ⟨q,2,none⟩ v).setCell ⟨q,3,none⟩ (.int .i64 f)).setCell ⟨q,4,none⟩ (.int .i64 u)
theorem Box.lay {w:World} {q:Nat} {k0 k:Int} {t0 t:ByteArray} {v0 v:Value} {f0 f u0 u:Int} (h:Box w q k0 t0 v0 f0 u0):Box (lay5 w q k t v f u) q k t v f u:=by
 have h1:=heap_setCell_same w q 0 _ 27 (.int .i64 k) h
 have h2:=heap_setCell_same _ q 1 _ 27 (.string t) h1
 have h3:=heap_setCell_same _ q 2 _ 27 v h2
 have h4:=heap_setCell_same _ q 3 _ 27 (.int .i64 f) h3
 exact heap_setCell_same _ q 4 _ 27 (.int .i64 u) h4
theorem ad6 (w:World) (q:Nat) (k:Int) (t:ByteArray) (v:Value) (f u:Int) (i:Nat) (h:i≠q):(lay5 w q k t v f u).heap[i]? =w.heap[i]? :=by
 unfold lay5
 rw [Below.heap_setCell _ _ _ _ h,Below.heap_setCell _ _ _ _ h,Below.heap_setCell _ _ _ _ h,Below.heap_setCell _ _ _ _ h,Below.heap_setCell _ _ _ _ h]
theorem al2 (w:World) (q:Nat) (k:Int) (t:ByteArray) (v:Value) (f u:Int):(lay5 w q k t v f u).heap.size=w.heap.size:=by simp [lay5,World.setCell]
theorem lay5_bel {B:Nat} {a w:World} (h:Below B a w) {q:Nat} (hq:B≤q) (k:Int) (t:ByteArray) (v:Value) (f u:Int):Below B a (lay5 w q k t v f u):=
 ((((h.setCell (p:=⟨q,0,none⟩) hq _).setCell (p:=⟨q,1,none⟩) hq _).setCell (p:=⟨q,2,none⟩) hq _).setCell (p:=⟨q,3,none⟩) hq _).setCell (p:=⟨q,4,none⟩) hq _
theorem results_nd {fn:Func} {p:Tmp} (h:fn.results= #[.cell p 27]) (tmps:Array Value) (w:World) (g:Nat) {k:Int} {t:ByteArray} {v:Value} {f u:Int} (hp:tmps.getD p undef= .pointer (some ⟨g,0,none⟩)) (hx:Box w g k t v f u):
  (results fn tmps).run Tryz.prog w= .ok (.agg #[.int .i64 k,.string t,v,.int .i64 f,.int .i64 u]) w:=
 results_cell_row h tmps w g 27 _ (0,0) _ hp hx Tryz.underlying27 rfl (by kernel_rfl)
theorem CdS.done {w0 wr:World} {p q:Nat} {n:Nd} {vk:Value} (h:CdS w0 p q n vk n.kids.length wr):
  ∃b' cap',vk= .slice b' n.kids.length cap'∧NdV (lay5 wr q n.kind n.text (.slice b' n.kids.length cap') n.from' n.till) w0.heap.size (lay5 wr q n.kind n.text (.slice b' n.kids.length cap') n.from' n.till).heap.size n (.agg #[.int .i64 n.kind,.string n.text,.slice b' n.kids.length cap',.int .i64 n.from',.int .i64 n.till])∧
   Below w0.heap.size w0 (lay5 wr q n.kind n.text (.slice b' n.kids.length cap') n.from' n.till)∧Box (lay5 wr q n.kind n.text (.slice b' n.kids.length cap') n.from' n.till) q n.kind n.text (.slice b' n.kids.length cap') n.from' n.till:=by
 have h1:=h.pq
 have h3:=h.hp
 have hk:=h.kr
 rw [List.take_length] at hk
 obtain⟨b',cap',hv,hc,hr⟩:=row hk
 refine⟨b',cap',hv,⟨b',cap',rfl,?_⟩,lay5_bel h.bel (by omega) _ _ _ _ _,h.res.lay⟩
 rw [al2]
 exact⟨hc,ag9 (by omega) (Nat.le_refl _) (fun i h4 _=>ad6 _ _ _ _ _ _ _ _ (by omega)) hr⟩
end Cd
theorem bd3 (n:Nd): ∀(a:Option Addr) (cap:Nat) (w:World) (S:Nat→Prop),(∀k,S k→k<w.heap.size)→n.kids.length≤cap→RowS w S n.kids a 0→aa4 n≤4194304→
  Calls Tryz.prog 217 #[.agg #[.int .i64 n.kind,.string n.text,.slice a n.kids.length cap,.int .i64 n.from',.int .i64 n.till]] w fun e w'=> ∃u,e= .returned u∧NdV w' w.heap.size w'.heap.size n u∧Below w.heap.size w w':=by
 induction n using Nd.ind with
 |h n ih=>
  intro a cap w S hS hcap hrow hsz
  have hkc:n.kids.length≤4194304:=by have:=Cd.kids_le n.kids;have:=ac6 n;omega
  have HIH:=hJ (fun(W:World) (j:Nat) (hj:j<n.kids.length) (b:Option Addr) (c:Nat) (hc:n.kids[j].kids.length≤c) (hu:RowS W S n.kids[j].kids b 0) (hW:w.heap.size≤W.heap.size)=>ih _ (List.getElem_mem hj) b c W S (fun k hk=>Nat.lt_of_lt_of_le (hS k hk) hW) hc hu (by have:=Pc.kid_size hj;omega))
  have HROW:=hJ hrow
  have HSS:=hJ hS
  clear hrow ih hS
  go_enter Tryz.func217,Tryz.ntmps217
  go_upto_region 3 with fail
  have hO:Cd.Box ((w.alloc (.cells #[.int .i64 n.kind,.string n.text,.slice none 0 0,.int .i64 n.from',.int .i64 n.till] 27)).alloc (.cells #[.int .i64 0,.string ⟨#[]⟩,.slice none 0 0,.int .i64 0,.int .i64 0] 27)) w.heap.size n.kind n.text (.slice none 0 0) n.from' n.till:=(Cd.Box.new rfl).alloc _
  have hQ:Cd.Box ((w.alloc (.cells #[.int .i64 n.kind,.string n.text,.slice none 0 0,.int .i64 n.from',.int .i64 n.till] 27)).alloc (.cells #[.int .i64 0,.string ⟨#[]⟩,.slice none 0 0,.int .i64 0,.int .i64 0] 27)) (w.heap.size+1) 0 ⟨#[]⟩ (.slice none 0 0) 0 0:=Cd.Box.new (by rw [World.size_alloc])
  have hCP:Cd.CdS w w.heap.size (w.heap.size+1) n (.slice none 0 0) 0 ((w.alloc (.cells #[.int .i64 n.kind,.string n.text,.slice none 0 0,.int .i64 n.from',.int .i64 n.till] 27)).alloc (.cells #[.int .i64 0,.string ⟨#[]⟩,.slice none 0 0,.int .i64 0,.int .i64 0] 27)):=
   ⟨hO,hQ,KRow.nil _ _ _,(Below.alloc (Below.alloc (Below.refl _ w) (Nat.le_refl _) _) (by rw [World.size_alloc];omega) _),Nat.le_refl _,by omega,by rw [World.size_alloc,World.size_alloc];omega⟩
  generalize World.alloc (World.alloc w _) _=w1 at*
  have HCP:=hJ hCP
  clear hO hQ hCP
  obtain⟨i0,hi,hz0,hz1,hz2⟩:=info_parts ak2
  go_wp2_with fail
  go_loopw [11] (fun i wr=> ∃(k:Nat) (vk:Value),k≤n.kids.length∧i= .int .i64 k∧Cd.CdS w w.heap.size (w.heap.size+1) n vk k wr) (fun i _=>n.kids.length - (intOf i).toNat)
  case atStart=>exact⟨0,_,Nat.zero_le _,rfl,HCP.out⟩
  case round=>
   clear HCP
   obtain⟨k,vk,hkl,rfl,hcp⟩:=hrel
   have HCP:=hJ hcp
   obtain⟨x0,x1,x2,x3,x4,y0,y1,y2,y3,y4⟩:=hcp.out.fs
   by_cases hlt:k<n.kids.length
   ·obtain⟨g,off,b',cap',rfl,hgS,c0,c1,c2,c3,c4,hcap',hr'⟩:=Pc.kid (ab2 (fun _ h=>h) (fun j hj=>hcp.bel.block j (HSS.out j hj)) HROW.out) k hlt
    have hgw:g<wr.heap.size:=Nat.lt_of_lt_of_le (HSS.out g hgS) hcp.bel.size
    have HCALL:=hJ (fun(W:World) (hW:Below wr.heap.size wr W)=>Cd.use hcp hkl hW (HIH.out W k hlt b' cap' hcap' (ab2 (fun _ h=>h) (fun j hj=>hW.block j (Nat.lt_of_lt_of_le (HSS.out j hj) hcp.bel.size)) hr') (Nat.le_trans hcp.bel.size hW.size)))
    have hqr:=hcp.hq
    have hpl:w.heap.size<wr.heap.size:=by omega
    have hkl2:(n.kids.take k).length=k:=by rw [List.length_take];omega
    generalize hkid:n.kids[k]=x at*
    have HX:=hJ hkid
    have HKL:=hJ hkl2
    clear hcp hkid hkl2 hr'
    go_upto_region 6 with fail
    go_region_law (first|((go_simp;(with_reducible refine(HCALL.out _ (Below.drew (Below.alloc (Below.refl _ _) (Nat.le_refl _) _))).mono ?_);rintro e w2 ⟨bu,cu,rfl,hru,hb2,hkr2,hln2,e2,f2,hs2,hq2⟩;have HLN:=hJ hln2;clear hln2))|((refine step_append_lies _ (by rfl) _ _ _ (by rfl) (w.heap.size+1+1) 27 i0 _ 5 64 (by kernel_rfl) hi hz0 hz1 hz2 (by rfl) (by decide) vk k hkr2.cells (by rfl) ((hkr2.own HLN.out).alloc _) ⟨w2.heap.size,0,none⟩ 1 1 [.int .i64 x.kind,.string x.text,.slice bu x.kids.length cu,.int .i64 x.from',.int .i64 x.till] (by rfl) (by rfl) (World.news_of_block (heap_alloc_new _ _)) Cd.five_one (by decide) (by unfold maxLen;omega) (by omega) (by rw [World.size_alloc];omega) (w2.heap.size+1) (by simp) ?_;intro g1 cap1 w3 hown3 hgrow3 hat3 hlt3;have b3:=Cd.push_far hgrow3 (hkr2.own HLN.out) hq2 (Nat.le_succ _);have e3:=(World.cell?_of_block (a:=⟨w.heap.size,2,none⟩) b3).trans e2;have f3:=(World.frozen?_of_block (a:=⟨w.heap.size,2,none⟩) b3).trans f2)))
    all_goals
     have hst3:=Cd.CdS.step HCP.out hlt HX.out hb2 hru hkr2 HKL.out hown3 hgrow3 hat3 hq2
     have HST3:=hJ hst3
     clear hst3 hown3 hgrow3 hat3 hkr2 hru hb2
     go_wp2_with fail
     go_roundw
     case rel=>exact⟨k+1,_,hlt,by go_num,HST3.out⟩
     case measure=>simp [intOf];omega
   ·obtain rfl:k=n.kids.length:=by omega
    obtain⟨b',cap',rfl,hnv,hbel,hbox⟩:=hcp.done
    obtain⟨u0,u1,u2,u3,u4,v0,v1,v2,v3,v4⟩:=hcp.res.fs
    have HNV:=hJ hnv
    have HBE:=hJ hbel
    have HBX:=hJ hbox
    clear hcp hnv hbel hbox
    go_wp2_with fail
    refine bodyPost_ret (Cd.results_nd rfl _ _ (w.heap.size+1) rfl HBX.out) rfl ?_
    exact⟨_,rfl,HNV.out,HBE.out⟩
theorem bl1 {E:PE} {F:Nat→Prop} {w1 w2:World} {p:Ps} {n:Nd} {u:Value} {L:Nat} (hs:St E F w1 p) (hL:w1.heap.size≤L) (hn:NdV w2 L w2.heap.size n u) (hb:Below w1.heap.size w1 w2):IsP E F w2 n u:=by
 obtain⟨a,c,rfl,h1,h2⟩:=hn
 refine⟨a,c,rfl,h1,Cd.rowS (fun k h4 h5=>⟨h5,fun ho=> ?_,fun hf=> ?_⟩) h2⟩
 ·rw [Own.same (hb.block _ hs.lt)] at ho
  obtain⟨va,vc,mb,D,h0⟩:=hs.open
  rcases (h0.own k).1 ho with e|e|e
  ·have:=hs.lt;omega
  ·have:=(aa5 h0.cm e).1;omega
  ·have:=ah7 h0.map;omega
 ·have:=(hs.fo k hf).2.1
  omega
end
end Go.Proofs.YtnobjeelihkjmaaGreatDoor
