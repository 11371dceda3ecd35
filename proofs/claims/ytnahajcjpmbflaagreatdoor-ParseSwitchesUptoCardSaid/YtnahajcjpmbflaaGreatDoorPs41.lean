/- Steps (Sw). Conditions: as stated. -/
import Derived.Test.YtnahajcjpmbflaaGreatDoorPs40
import Derived.Test.YtnahajcjpmbflaaGreatDoorPs38
import Derived.Test.YtnahajcjpmbflaaGreatDoorPs37
set_option maxHeartbeats 16000000
set_option maxRecDepth 100000
namespace Go.Proofs.YtnahajcjpmbflaaGreatDoor
section
open Go.RowKit
theorem CK_bel {w w':World} (hb:Below w.heap.size w w') {p:Addr} {v:Value} (h:w.cell? p=some v):w'.cell? p=some v:=by
 rw [hb.cell (World.block_lt_of_cell? _ _ h)]
 exact h
abbrev SwC:=Option (List UInt8) × Nat
theorem swF_snoc: ∀k,swF (k+1)=swF k++ [32,102,40,41,59]
 |0=>rfl
 |k+1=>by
  show [32,102,40,41,59]++swF (k+1)=([32,102,40,41,59]++swF k)++_
  rw [swF_snoc k,List.append_assoc]
theorem swB_inc (o:Option (List UInt8)) (k:Nat):swB (o,k+1)=swB (o,k)++ [32,102,40,41,59]:=by
 cases o with
 |none=>show _++swF (k+1)=(_++swF k)++_;rw [swF_snoc,List.append_assoc]
 |some d=>show _++(d++58::swF (k+1))=(_++(d++58::swF k))++_;rw [swF_snoc];simp
theorem swT_snoc: ∀(cs:List SwC) (c:SwC),swT (cs++ [c])=swT cs++swB c
 | [],c=>by show swB c++ []= []++swB c;rw [List.append_nil,List.nil_append]
 |x::cs,c=>by rw [List.cons_append,swT,swT_snoc cs c,swT,List.append_assoc]
theorem swSum_snoc: ∀(cs:List SwC) (c:SwC),swSum (cs++ [c])=swSum cs+c.2
 | [],c=>by show c.2+0=0+c.2;omega
 |x::cs,c=>by rw [List.cons_append,swSum,swSum_snoc cs c,swSum];omega
theorem SwOk.some' {d:List UInt8} (hd:NumD d) (k:Nat): ∀ {b:Bool} {cs:List SwC},SwOk b cs→SwOk b (cs++ [(some d,k)])
 |_,[],_=>⟨hd,trivial⟩
 |_,(none,_)::_,h=>⟨h.1,SwOk.some' hd k h.2⟩
 |_,(some _,_)::_,h=>⟨h.1,SwOk.some' hd k h.2⟩
theorem SwOk.none' (k:Nat): ∀ {cs:List SwC},SwOk false cs→cs.any (fun c=>c.1.isNone)=false→SwOk false (cs++ [(none,k)])
 | [],_,_=>⟨rfl,trivial⟩
 |(none,_)::cs,_,h=>by rw [List.any_cons] at h;cases h
 |(some _,_)::cs,h,h2=>⟨h.1,SwOk.none' k h.2 (by rw [List.any_cons] at h2;simpa using h2)⟩
theorem SwOk.inc {o:Option (List UInt8)} {k m:Nat} : ∀ {b:Bool} {cs:List SwC},SwOk b (cs++ [(o,k)])→SwOk b (cs++ [(o,m)])
 |_,[],h=>by cases o<;>exact h
 |_,(none,_)::cs,h=>⟨h.1,SwOk.inc (cs:=cs) h.2⟩
 |_,(some _,_)::cs,h=>⟨h.1,SwOk.inc (cs:=cs) h.2⟩
theorem sw_last {cs:List SwC} (h:0<cs.length): ∃l o k,cs=l++ [(o,k)]:=by
 have hne:cs≠ []:=by rintro rfl;simp at h
 exact⟨cs.dropLast,(cs.getLast hne).1,(cs.getLast hne).2,(List.dropLast_concat_getLast hne).symm⟩
theorem dcl_num: ∀i:Fin 100,dcl i.val= [48]∨(dcl i.val).head?≠some 48:=by decide+kernel
theorem numD_dcl {i:Nat} (h:i<100):NumD (dcl i):=⟨(dcl_row ⟨i,h⟩).2.1,(dcl_row ⟨i,h⟩).2.2,dcl_num ⟨i,h⟩⟩
def swV (cs:List SwC):List Value:=cs.map fun c=>Value.int .i64 (c.2:Nat)
theorem own_last {w:World} {B g n cap:Nat} {e:TypeId} {xs:List Value} {x y:Value} (h:w.ownsRow B e 1 (.slice (some ⟨g,0,none⟩) (n+1) cap) (n+1) (xs++ [x])):(w.setCell ⟨g,n,none⟩ y).ownsRow B e 1 (.slice (some ⟨g,0,none⟩) (n+1) cap) (n+1) (xs++ [y]):=by
 obtain⟨h0,h1⟩:=h
 rcases h1 with ⟨e1,_⟩|⟨g',cap',cur,e1,hb,hc,hn,hm,hz,ht⟩
 ·cases e1
 ·simp only [Value.slice.injEq,Option.some.injEq,Addr.mk.injEq] at e1
  obtain⟨⟨rfl,_⟩,_,rfl⟩:=e1
  have hl:xs.length=n:=by simp at h0;omega
  refine⟨by simp [hl],.inr ⟨g,cap,cur.setIfInBounds n y,rfl,hb,?_,hn,hm,by simpa using hz,?_⟩⟩
  ·exact heap_setCell_same _ g n _ _ y hc
  ·rw [Array.toList_setIfInBounds]
   rw [Nat.mul_one] at ht⊢
   rw [List.take_set,ht,List.set_append_right _ _ (by omega),hl,Nat.sub_self]
   rfl
theorem own_form {w:World} {B n:Nat} {e:TypeId} {v:Value} {xs:List Value} (h:w.ownsRow B e 1 v n xs): ∃a c,v= .slice a n c:=by
 rcases h.2 with ⟨rfl,h0⟩|⟨g,cap,cur,rfl,_⟩
 ·exact⟨none,0,by rw [h0]⟩
 ·exact⟨_,_,rfl⟩
structure SwSt (w:World) (j:Nat) (cs:List SwC) (ov:Value) (S:ByteArray) (b:Bool) (wr:World):Prop where
 own:wr.ownsRow w.heap.size 3 1 ov cs.length (swV cs)
 bel:Below w.heap.size w wr
 ok:SwOk false cs
 any:cs.any (fun c=>c.1.isNone)=b
 txt:S.data.toList= [115,119,105,116,99,104,32,40,118,41,32,123]++swT cs
 len:cs.length+swSum cs≤j
 ss:S.size≤12+11*j
theorem swB_len {c:SwC} (h0:c.2=0) (hd: ∀d,c.1=some d→d.length≤2):(swB c).length≤11:=by
 obtain⟨o,k⟩:=c
 obtain rfl:k=0:=h0
 cases o with
 |none=>show([32,100,101,102,97,117,108,116,58]++swF 0).length≤11;decide
 |some d=>
  have:=hd d rfl
  show([32,99,97,115,101,32]++(d++58::swF 0)).length≤11
  simp [swF]
  omega
theorem SwSt.push {w wr w2:World} {j n:Nat} {cs:List SwC} {ov v:Value} {S X:ByteArray} {b b':Bool} {ob:Obj} (h:SwSt w j cs ov S b wr) (hn:cs.length=n) (c:SwC) (hc:c.2=0) (hg:(wr.alloc ob).grownBy w2 ov.ownBlock) (hown:w2.ownsRow w.heap.size 3 1 v (n+1) (swV cs++ [.int .i64 0]))
  (hok:SwOk false (cs++ [c])) (hb':b'=(b||c.1.isNone)) (hd: ∀d,c.1=some d→d.length≤2) (hX:X.data.toList=S.data.toList++swB c):SwSt w (j+1) (cs++ [c]) v X b' w2:=by
 subst hn
 refine⟨?_,push_bel2 h.bel h.bel.size h.own hg,hok,?_,?_,?_,?_⟩
 ·rw [List.length_append]
  unfold swV at hown⊢
  rw [List.map_append]
  show w2.ownsRow _ _ _ _ (cs.length+1) (_++ [.int .i64 ((c.2:Nat):Int)])
  rw [hc]
  exact hown
 ·rw [List.any_append,h.any,hb',List.any_cons,List.any_nil,Bool.or_false]
 ·rw [hX,h.txt,swT_snoc,List.append_assoc]
 ·rw [List.length_append,swSum_snoc,hc]
  have:=h.len
  simp
  omega
 ·have h1:=ba_size hX
  have h2:S.data.toList.length=S.size:=Array.length_toList
  have h3:=swB_len hc hd
  have h4:=h.ss
  rw [List.length_append,h2] at h1
  omega
theorem SwSt.inc {w wr:World} {j g cap k m:Nat} {l:List SwC} {o:Option (List UInt8)} {S X:ByteArray} {b:Bool} (h:SwSt w j (l++ [(o,k)]) (.slice (some ⟨g,0,none⟩) (m+1) cap) S b wr) (hm:l.length=m) (hX:X.data.toList=S.data.toList++ [32,102,40,41,59]):
  SwSt w (j+1) (l++ [(o,k+1)]) (.slice (some ⟨g,0,none⟩) (m+1) cap) X b (wr.setCell ⟨g,m,none⟩ (.int .i64 ((k+1:Nat):Int))):=by
 subst hm
 have hown:=h.own
 rw [List.length_append] at hown
 unfold swV at hown
 rw [List.map_append] at hown
 have hgb:w.heap.size≤g:=by
  rcases hown.2 with ⟨e,_⟩|⟨g',_,_,e,hb,_⟩
  ·cases e
  ·simp only [Value.slice.injEq,Option.some.injEq,Addr.mk.injEq] at e
   omega
 refine⟨?_,?_,h.ok.inc,?_,?_,?_,?_⟩
 ·rw [List.length_append]
  unfold swV
  rw [List.map_append]
  exact own_last (y:= .int .i64 ((k+1:Nat):Int)) hown
 ·exact h.bel.setCell hgb _
 ·have:=h.any
  rw [List.any_append] at this⊢
  exact this
 ·rw [hX,h.txt,swT_snoc,swT_snoc,swB_inc]
  simp only [List.append_assoc]
 ·have:=h.len
  rw [List.length_append,swSum_snoc] at this⊢
  simp at this⊢
  omega
 ·have h1:=ba_size hX
  have h2:S.data.toList.length=S.size:=Array.length_toList
  have h4:=h.ss
  rw [List.length_append,h2] at h1
  simp at h1
  omega
theorem SwSt.more {w wr:World} {j:Nat} {cs:List SwC} {ov:Value} {S:ByteArray} {b:Bool} (h:SwSt w j cs ov S b wr):SwSt w (j+1) cs ov S b wr:=⟨h.own,h.bel,h.ok,h.any,h.txt,Nat.le_succ_of_le h.len,by have:=h.ss;omega⟩
theorem SwSt.bel' {w wr w2:World} {j:Nat} {cs:List SwC} {ov:Value} {S:ByteArray} {b:Bool} (h:SwSt w j cs ov S b wr) (hb:Below wr.heap.size wr w2):SwSt w j cs ov S b w2:=⟨own_below h.own hb,bel_next h.bel hb,h.ok,h.any,h.txt,h.len,h.ss⟩
theorem swSum_mem: ∀ {cs:List SwC} {x:SwC},x ∈ cs→x.2≤swSum cs
 |c::cs,x,h=>by
  rw [swSum]
  rcases List.mem_cons.1 h with rfl|h
  ·omega
  ·have:=swSum_mem h
   omega
theorem SwNs.len: ∀ {cs:List SwC} {l:List Nd},SwNs cs l→cs.length=l.length
 |_,_,.nil=>rfl
 |_,_,.cons _ t=>by rw [List.length_cons,List.length_cons,t.len]
theorem SwNs.get: ∀ {cs:List SwC} {l:List Nd},SwNs cs l→∀m,(h:m<cs.length)→(h2:m<l.length)→SwN cs[m] l[m]
 |_,_,.nil,m,h,_=>absurd h (by simp)
 |_,_,.cons h t,0,_,_=>h
 |_,_,.cons h t,m+1,h1,h2=>t.get m (by simpa using h1) (by simpa using h2)
theorem row_sw {w:World} {L B:Nat} {a b:ByteArray} {v:Nd} {l:List Nd} {f g h i:Int} {p:Option Addr} (hr:RowP w L B [.mk 73 a [v,.mk 74 b l f g] h i] p 0):
  ∃g0 o0 g1 o1 c1 p2 c2,p=some ⟨g0,o0,none⟩∧w.cell? ⟨g0,o0,none⟩=some (.int .i64 73)∧w.cell? ⟨g0,o0+2,none⟩=some (.slice (some ⟨g1,o1,none⟩) 2 c1)∧w.cell? ⟨g1,o1+5+2,none⟩=some (.slice p2 l.length c2)∧RowP w L B l p2 0:=by
 obtain⟨g0,o0,rfl,h0⟩:=RowP_get hr 0 (by simp)
 rw [NdC_eq] at h0
 obtain⟨p1,c1,_,_,e0,_,e2,_,_,_,h1⟩:=h0
 obtain⟨g1,o1,rfl,k1⟩:=RowP_get h1 1 (by simp [Nd.kids])
 rw [NdC_eq] at k1
 obtain⟨p2,c2,_,_,_,_,e3,_,_,_,h2⟩:=k1
 exact⟨g0,o0,g1,o1,c1,p2,c2,rfl,e0,e2,e3,h2⟩
theorem row_case {w:World} {L B m:Nat} {l:List Nd} {p:Option Addr} {c:SwC} (hr:RowP w L B l p 0) (hm:m<l.length) (hc:SwN c l[m]):
  ∃g2 o2 g3 o3 c3 p4 c4,p=some ⟨g2,o2,none⟩∧w.cell? ⟨g2,o2+m*5+2,none⟩=some (.slice (some ⟨g3,o3,none⟩) 2 c3)∧w.cell? ⟨g3,o3+5+2,none⟩=some (.slice p4 c.2 c4):=by
 obtain⟨a,b,x,ls,f,g,h,i,e,hl⟩:=hc
 obtain⟨g2,o2,rfl,h0⟩:=RowP_get hr m hm
 rw [e,NdC_eq] at h0
 obtain⟨p1,c1,_,_,_,_,e2,_,_,_,h1⟩:=h0
 obtain⟨g3,o3,rfl,k1⟩:=RowP_get h1 1 (by simp [Nd.kids])
 rw [NdC_eq] at k1
 obtain⟨p4,c4,_,_,_,_,e3,_⟩:=k1
 have e2':w.cell? ⟨g2,o2+m*5+2,none⟩=some (.slice (some ⟨g3,o3,none⟩) 2 c1):=by
  rw [Nat.zero_add] at e2
  exact e2
 rw [←hl]
 exact⟨g2,o2,g3,o3,c1,p4,c4,rfl,e2',e3⟩
theorem infoSw:(Tryz.prog.info? 3).map (fun i=>(i.zero,i.size,i.bytes))=some (some (.int .i64 0),1,8):=by kernel_rfl
def SwRel (w:World) (len:Nat) (sv ov bv i:Value) (wr:World):Prop:= ∃(j:Nat) (cs:List SwC) (S:ByteArray) (b:Bool),j≤len∧j≤30∧i= .int .i64 j∧sv= .string S∧bv= .bool b∧SwSt w j cs ov S b wr
theorem switches_any (ao:Option Addr) (len cap:Nat) (w:World) (hc:IntsArg w ao len) (hl:len≤33554432) (hx:Lx w):
  Calls Tryz.prog 4 #[.slice ao len cap] w fun e w'=>e= .returned (.bool true)∧Below w.heap.size w w':=by
 obtain⟨i0,hi,hz0,hz1,hz2⟩:=info_parts infoSw
 have HC:=Lib.hid hc
 have HX:=Lib.hid hx
 clear hc hx
 go_enter Tryz.func4,Tryz.ntmps4
 go_wp2_with fail
 refine(awake_any w HX.out).mono ?_
 rintro e w1 ⟨rfl,hb1⟩
 have HB:=Lib.hid hb1
 clear hb1
 go_wp2_with fail
 go_loopw [3,4,5,6,7,29,41,53] (fun sv ov bv i _ _ _ _ wr=>SwRel w1 len sv ov bv i wr) (fun _ _ _ i _ _ _ _ _=>30 - (intOf i).toNat)
 case atStart=>exact⟨0,[],_,false,Nat.zero_le _,Nat.zero_le _,rfl,rfl,rfl,⟨World.ownsRow_nil _ _ _ _,Below.refl _ _,trivial,rfl,rfl,Nat.le_refl _,by decide⟩⟩
 case round=>
  obtain⟨j,cs,S,b,hj,hj30,rfl,rfl,rfl,hst⟩:=hrel
  have hss:=hst.ss
  have hcl:cs.length≤30:=by have:=hst.len;omega
  have hvl:(swV cs).length=cs.length:=List.length_map _
  have HST:=Lib.hid hst
  have hwz:=hst.bel.size
  clear hst
  by_cases hlt:j<len∧j<30
  ·obtain⟨hlt,hlt30⟩:=hlt
   obtain⟨b',off,rfl,hb,z,hz⟩:=HC.out j hlt
   rw [←(bel_next HB.out HST.out.bel).cell (p:=⟨b',off+j,none⟩) hb] at hz
   obtain⟨a,ha,ha2⟩:=pickN z 4 (by decide)
   replace ha:(IntKind.u64.wrap z).tmod 4=(a:Int):=ha
   clear hb
   have h4:(a=0∧b=false)∨(a<3∧(a=0→b=true))∨a=3:=by
    cases b with
    |true=>simp;omega
    |false=>simp;omega
   rcases h4 with ⟨rfl,rfl⟩|⟨h3,h0⟩|rfl
   ·replace ha:(IntKind.u64.wrap z).tmod 4=0:=ha
    have hOK:=Lib.hid (HST.out.ok.none' 0 HST.out.any)
    go_upto_region 13 with fail
    clear hz
    go_wp2_with (at_builtin;refine wpList_append_own_at _ rfl _ _ 22 rfl w1.heap.size 3 i0 (.int .i64 0) 1 8 (by kernel_rfl) hi hz0 hz1 hz2 rfl (by decide) _ _ _ rfl (HST.out.own.alloc _) ⟨wr.heap.size,0,none⟩ 1 1 [.int .i64 0] rfl rfl (cell_new1 _ _ _) (fun u hu=>by simp at hu;subst hu;rfl) (by unfold maxLen;omega) (by omega) (by rw [World.size_alloc];omega) ?_)
    intro v6 w6 hown6 hgrow6 _ _
    have hst2:=Lib.hid (HST.out.push rfl (none,0) rfl hgrow6 hown6 hOK.out (b':=true) rfl (fun d h=>by cases h) (X:=S++⟨#[32,100,101,102,97,117,108,116,58]⟩) (by simp [ByteArray.data_append,swB,swF]))
    clear hown6 hgrow6
    go_wp2_with fail
    go_roundw
    case rel=>exact⟨j+1,_,_,true,hlt,by omega,by go_num,rfl,rfl,hst2.out⟩
    case measure=>simp [intOf];omega
   ·have h3':(a:Int)<3:=by omega
    have hOK:=Lib.hid (HST.out.ok.some' (numD_dcl (i:=j) (by omega)) 0)
    obtain⟨D,hD⟩: ∃D:ByteArray,(⟨(dcl j).toArray⟩:ByteArray)=D:=⟨_,rfl⟩
    have hDl:D.data.toList=dcl j:=by rw [←hD]
    have hDs:D.size≤2:=by rw [ba_size hDl];exact(dcl_row ⟨j,by omega⟩).1
    have HDC:=Lib.hid (fun W:World=>show Calls Tryz.prog 10 #[.int .i64 ((j:Nat):Int)] W fun e w'=>e= .returned (.string D)∧Below W.heap.size W w' from by have h:=decimal100 j (by omega) W;rw [hD] at h;exact h)
    have HDL:=Lib.hid hDl
    have hdl2:(dcl j).length≤2:=(dcl_row ⟨j,by omega⟩).1
    have HDD:=Lib.hid hdl2
    clear hD hDl hdl2
    have ha0:((a:Int)==0)=true→b=true:=fun h=>h0 (by have:=eq_of_beq h;omega)
    have hcond:a=0∨((a:Int)==0)=false:=by
     by_cases h:a=0
     ·exact .inl h
     ·exact .inr (kf (by omega))
    have key:a=0∧b=true∨((a:Int)==0)=false:=hcond.imp (fun h=>⟨h,h0 h⟩) id
    clear h0 ha0 hcond
    rcases key with ⟨rfl,rfl⟩|hne0
    all_goals
     go_upto_region 16 with (go_at_call 10;refine(HDC.out _).mono ?_;rintro e w7 ⟨rfl,hb7⟩)
     have hst1:=Lib.hid (HST.out.bel' hb7)
     have hz7:=hb7.size
     clear hb7 hz
     go_wp2_with (at_builtin;refine wpList_append_own_at _ rfl _ _ 22 rfl w1.heap.size 3 i0 (.int .i64 0) 1 8 (by kernel_rfl) hi hz0 hz1 hz2 rfl (by decide) _ _ _ rfl (hst1.out.own.alloc _) ⟨w7.heap.size,0,none⟩ 1 1 [.int .i64 0] rfl rfl (cell_new1 _ _ _) (fun u hu=>by simp at hu;subst hu;rfl) (by unfold maxLen;omega) (by omega) (by rw [World.size_alloc];omega) ?_)
     intro v6 w6 hown6 hgrow6 _ _
     have hst2:=Lib.hid (hst1.out.push rfl (some (dcl j),0) rfl hgrow6 hown6 hOK.out (b':=_) (by rw [show (some (dcl j),0).1.isNone=false from rfl,Bool.or_false]) (fun d h=>by cases h;exact HDD.out) (X:=S++⟨#[32,99,97,115,101,32]⟩++D++⟨#[58]⟩) (by simp [ByteArray.data_append,swB,swF,HDL.out]))
     clear hown6 hgrow6 hst1
     go_wp2_with fail
     go_roundw
     case rel=>exact⟨j+1,_,_,_,hlt,by omega,by go_num,rfl,rfl,hst2.out⟩
     case measure=>simp [intOf];omega
   ·replace ha:(IntKind.u64.wrap z).tmod 4=3:=ha
    by_cases hcs:0<cs.length
    ·obtain⟨l,o,k,rfl⟩:=sw_last hcs
     have hown:=HST.out.own
     have hk30:k≤30:=by have:=HST.out.len;rw [List.length_append,swSum_snoc] at this;simp at this;omega
     obtain⟨m,hm⟩: ∃m,l.length=m:=⟨_,rfl⟩
     have hlm:(l++ [(o,k)]).length=m+1:=by rw [List.length_append,hm];rfl
     rw [hlm] at hown hcl
     have hm30:m≤29:=by omega
     have hown2:=hown
     rcases hown2.2 with ⟨_,h0⟩|⟨g,cap',cur,rfl,hgb,hgc,_,_,_,_⟩
     ·omega
     have hcell:=hown.cellAt m (by omega)
     have hxv:(swV (l++ [(o,k)]))[m]? =some (.int .i64 (k:Nat)):=by
      unfold swV
      rw [List.map_append,List.getElem?_append_right (by rw [List.length_map];omega),List.length_map,hm,Nat.sub_self]
      rfl
     rw [hxv] at hcell
     have hfr:=frozen_of_row wr g m _ _ hgc
     have hgs:=(Array.getElem?_eq_some_iff.1 hgc).1
     have hst2:=Lib.hid (HST.out.inc hm (X:=S++⟨#[32,102,40,41,59]⟩) (by simp [ByteArray.data_append]))
     have n1:(m:Int)<((m+1:Nat):Int):=by omega
     have n2:(m:Int)<(m:Int)+1:=by omega
     have n3:(0:Int)≤(m:Int):=by omega
     have n5:((m+1:Nat):Int) - 1=(m:Int):=by omega
     have n6:(m:Int)+1 - 1=(m:Int):=by omega
     have n7:IntKind.i64.wrap (((m+1:Nat):Int) - 1)=(m:Int):=by rw [IntKind.wrap_i64];omega
     have n8:IntKind.i64.wrap ((m:Int)+1 - 1)=(m:Int):=by rw [IntKind.wrap_i64];omega
     have n9:IntKind.i64.wrap (m:Int)=(m:Int):=by rw [IntKind.wrap_i64];omega
     have p1:(0:Int)<((m+1:Nat):Int):=by omega
     have p2:(0:Int)<(m:Int)+1:=by omega
     clear hown hown2 hgc hxv hlm
     go_wp2_with fail
     go_roundw
     case rel=>exact⟨j+1,_,_,_,hlt,by omega,by go_num,rfl,rfl,hst2.out⟩
     case measure=>simp [intOf];omega
    ·obtain rfl:cs= []:=List.length_eq_zero_iff.1 (by omega)
     have hown:=HST.out.own
     rcases hown.2 with ⟨rfl,_⟩|⟨g,cap',cur,rfl,_⟩
     all_goals
      clear hown
      go_wp2_with fail
      go_roundw
      case rel=>exact⟨j+1,[],_,_,hlt,by omega,by go_num,rfl,rfl,HST.out.more⟩
      case measure=>simp [intOf];omega
  ·have hend:j=len∨(j=30∧30<len):=by omega
   obtain⟨A,hA⟩: ∃A:ByteArray,S++⟨#[32,125]⟩=A:=⟨_,rfl⟩
   obtain⟨n,q,e1,z1,d1,ka,kv,kb,kl,kf0,kg0,kh0,ki0,k1,k2⟩:=sw_all (s:=A) 20 (by decide) (cs:=cs) HST.out.ok hcl (fun x hx=>by have:=swSum_mem hx;have:=HST.out.len;omega) (by have:=HST.out.len;omega) (by rw [←hA];simp [ByteArray.data_append,HST.out.txt])
   have hs2:A.size≤1048576:=by rw [←hA,ByteArray.size_append];show S.size+2≤1048576;omega
   have HW:Hid (Below w.heap.size w wr):=Lib.hid (bel_next HB.out HST.out.bel)
   have HA1:=Lib.hid (statements_any 60 (by decide) hs2 e1 z1 wr (HX.out.bel HW.out))
   rw [deep_bareT d1,k1] at HA1
   have hkl:=k2.len
   have HK2:=Lib.hid k2
   have HQA:=Lib.hid hA
   clear e1 z1 d1 k1 k2 hs2 hA HC HB
   have hown:=HST.out.own
   obtain⟨go,co,hgo⟩:=own_form hown
   subst hgo
   rcases hend with rfl|⟨rfl,hl30⟩
   all_goals
    go_wp2_with fail
    rw [HQA.out]
    refine HA1.out.mono ?_
    rintro e w2 ⟨p1,c1,rfl,_,hr1,hb2⟩
    obtain⟨g0,o0,g1,o1,cc1,p2,c2,rfl,x0,x1,x2,hr2⟩:=row_sw hr1
    have hown2:=own_below hown hb2
    have HR:=Lib.hid hr2
    have HO:=Lib.hid hown2
    have HBE:=Lib.hid (bel_next HW.out hb2)
    rw [←hkl] at x2
    clear hr1 hr2 hb2 hown2 HA1
    go_wp2_with fail
    go_loopw [10] (fun i wr=> ∃m:Nat,m≤cs.length∧i= .int .i64 m∧Below w2.heap.size w2 wr) (fun i _=>cs.length - (intOf i).toNat)
    case atStart=>exact⟨0,Nat.zero_le _,rfl,Below.refl _ _⟩
    case round=>
     obtain⟨m,hm,rfl,hbw⟩:=hrel
     by_cases hml:m<cs.length
     ·have hml2:m<kl.length:=by omega
      have HBW:=Lib.hid hbw
      have y0:=CK_bel hbw x0
      have y1:=CK_bel hbw x1
      have y2:=CK_bel hbw x2
      have HO2:=Lib.hid (own_below HO.out hbw)
      obtain⟨g2,o2,g3,o3,c3,p4,c4,rfl,x3,x4⟩:=row_case (RowP_bel HR.out hbw) hml2 (HK2.out.get m hml hml2)
      obtain⟨gs,hgs,hcell⟩: ∃gs,go=some ⟨gs,0,none⟩∧wr.cell? ⟨gs,m,none⟩=some (.int .i64 ((cs[m].2:Nat):Int)):=by
       rcases HO2.out.2 with ⟨e,h0⟩|⟨g,cap',cur,e,_⟩
       ·omega
       ·obtain⟨rfl,_,rfl⟩:=Value.slice.inj e
        refine⟨g,rfl,?_⟩
        rw [HO2.out.cellAt m (by omega)]
        unfold swV
        rw [List.getElem?_map,List.getElem?_eq_getElem hml]
        rfl
      subst hgs
      generalize cs[m].2=cm at*
      have hm0:(0:Int)≤(m:Int):=by omega
      have hm1:(m:Int)<(cs.length:Int):=by omega
      clear hbw x0 x1 x2
      go_wp2_with fail
      go_quiet (fail)
      rename_i nq
      have HB9:=Lib.hid (bel_drewN HBW.out nq)
      generalize World.drewN wr nq=w9 at*
      go_wp2_with fail
      go_roundw
      case rel=>exact⟨m+1,hml,by go_num,HB9.out⟩
      case measure=>simp [intOf];omega
     ·obtain rfl:m=cs.length:=by omega
      have HBW:=Lib.hid (HBE.out.trans (hbw.mono HBE.out.size))
      clear hbw
      go_wp2_with fail
      go_ret
      exact⟨rfl,HBW.out⟩
end
end Go.Proofs.YtnahajcjpmbflaaGreatDoor
