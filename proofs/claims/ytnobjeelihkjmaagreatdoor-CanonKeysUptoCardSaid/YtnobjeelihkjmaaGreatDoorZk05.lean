/- Steps (Nd Kr Ash Rfo Awk Ams Abb Acp Abr Abp Abc). Conditions: as stated. -/
import Derived.Test.YtnobjeelihkjmaaGreatDoorZk01
import Derived.Deep.AppendLies
import Derived.RangeFuncBox
import Derived.RangeFuncNested
import Derived.OwnWalkIn
import Derived.LoopNIn
import Derived.LoopIn
import Derived.Sort.LoopGhostIn
import Derived.Sort.CutIn
set_option maxHeartbeats 4000000
set_option maxRecDepth 100000
namespace Go.Proofs.YtnobjeelihkjmaaGreatDoor
section
open Go.RowKit
inductive Nd where
 |mk (kind:Int) (text:ByteArray) (kids:List Nd) (from' till:Int)
def Nd.kind:Nd→Int| .mk k _ _ _ _=>k
def Nd.text:Nd→ByteArray| .mk _ t _ _ _=>t
def Nd.kids:Nd→List Nd| .mk _ _ ks _ _=>ks
def Nd.from':Nd→Int| .mk _ _ _ f _=>f
def Nd.till:Nd→Int| .mk _ _ _ _ t=>t
def Nd.zero:Nd:= .mk 0 ⟨#[]⟩ [] 0 0
mutual
def aa4:Nd→Nat
 | .mk _ _ ks _ _=>1+ag7 ks
def ag7:List Nd→Nat
 | []=>0
 |k::ks=>aa4 k+ag7 ks
end
mutual
def af3:Nd→Nat
 | .mk _ _ ks _ _=>1+at9 ks
def at9:List Nd→Nat
 | []=>0
 |k::ks=>max (af3 k) (at9 ks)
end
theorem ac6 (n:Nd):aa4 n=1+ag7 n.kids:=by cases n;rw [aa4];rfl
theorem aE2 (n:Nd):af3 n=1+at9 n.kids:=by cases n;rw [af3];rfl
theorem aj5: ∀ {ks:List Nd} {x:Nd},x ∈ ks→aa4 x≤ag7 ks
 | [],_,h=>by cases h
 |k::ks,x,h=>by
  rw [ag7]
  rcases List.mem_cons.1 h with rfl|h
  ·omega
  ·have:=aj5 h;omega
theorem Nd.ind {P:Nd→Prop} (h: ∀n,(∀x ∈ n.kids,P x)→P n) (n:Nd):P n:=by
 have key: ∀m n,aa4 n≤m→P n:=by
  intro m
  induction m with
  |zero=>intro n hn;rw [ac6] at hn;omega
  |succ m ih=>
   intro n hn
   refine h n fun x hx=>ih x ?_
   have:=aj5 hx
   rw [ac6] at hn
   omega
 exact key _ n (Nat.le_refl _)
theorem ba2: ∀ks:List Nd,ks.length≤ag7 ks
 | []=>Nat.le_refl _
 |k::ks=>by
  rw [ag7,List.length_cons,ac6]
  have:=ba2 ks
  omega
mutual
def al9:Nd→Nd→Bool
 | .mk k t ks _ _,b=>decide (k=b.kind) && decide (t=b.text) && decide (ks.length=b.kids.length) && az2 ks b.kids
def az2:List Nd→List Nd→Bool
 | [],_=>true
 |_::_,[]=>true
 |a::xs,b::ys=>al9 a b && az2 xs ys
end
theorem bp2 (a b:Nd):al9 a b=(decide (a.kind=b.kind) && decide (a.text=b.text) && decide (a.kids.length=b.kids.length) && az2 a.kids b.kids):=by cases a;rw [al9];rfl
theorem au3: ∀ {xs ys:List Nd},xs.length=ys.length→(az2 xs ys=true↔∀i,(h:i<xs.length)→(h2:i<ys.length)→al9 xs[i] ys[i]=true)
 | [],[],_=>by simp [az2]
 | [],_::_,h=>by simp at h
 |_::_,[],h=>by simp at h
 |a::xs,b::ys,h=>by
  simp only [List.length_cons,Nat.add_right_cancel_iff] at h
  rw [az2,Bool.and_eq_true,au3 h]
  constructor
  ·rintro⟨h1,h2⟩ i hi hj
   cases i with
   |zero=>exact h1
   |succ i=>exact h2 i (by simpa using hi) (by simpa using hj)
  ·intro h3
   exact⟨h3 0 (by simp) (by simp),fun i hi hj=>h3 (i+1) (by simpa using hi) (by simpa using hj)⟩
theorem az1 (a b:Nd):al9 a b=true↔a.kind=b.kind∧a.text=b.text∧a.kids.length=b.kids.length∧∀i,(h:i<a.kids.length)→(h2:i<b.kids.length)→al9 a.kids[i] b.kids[i]=true:=by
 rw [bp2]
 simp only [Bool.and_eq_true,decide_eq_true_eq]
 constructor
 ·rintro⟨⟨⟨h1,h2⟩,h3⟩,h4⟩
  exact⟨h1,h2,h3,(au3 h3).1 h4⟩
 ·rintro⟨h1,h2,h3,h4⟩
  exact⟨⟨⟨h1,h2⟩,h3⟩,(au3 h3).2 h4⟩
mutual
def ae8:Nd→Nd
 | .mk k t ks _ _=>if k=26 then aC3 ks else .mk k t (aC5 ks) 0 0
def aC3:List Nd→Nd
 | []=> .zero
 |k::_=>ae8 k
def aC5:List Nd→List Nd
 | []=> []
 |k::ks=>ae8 k::aC5 ks
end
theorem aC6: ∀ks:List Nd,aC5 ks=ks.map ae8
 | []=>by rw [aC5];rfl
 |k::ks=>by rw [aC5,List.map_cons,aC6 ks]
theorem aC4 (n:Nd):ae8 n=if n.kind=26 then aC3 n.kids else .mk n.kind n.text (n.kids.map ae8) 0 0:=by
 cases n
 rw [ae8,←aC6]
 rfl
def aa7 (k:Int) (t:ByteArray) (b:Option Addr) (n cap:Nat) (f u:Int):Array Value:= #[.int .i64 k,.string t,.slice b n cap,.int .i64 f,.int .i64 u]
mutual
def NdC (w:World) (L B:Nat):Nd→Nat→Nat→Prop
 | .mk k t ks f u,g,o=> ∃b cap,L≤g∧g<B∧w.cell? ⟨g,o,none⟩=some (.int .i64 k)∧w.cell? ⟨g,o+1,none⟩=some (.string t)∧
   w.cell? ⟨g,o+2,none⟩=some (.slice b ks.length cap)∧w.cell? ⟨g,o+3,none⟩=some (.int .i64 f)∧w.cell? ⟨g,o+4,none⟩=some (.int .i64 u)∧ks.length≤cap∧RowP w L B ks b 0
def RowP (w:World) (L B:Nat):List Nd→Option Addr→Nat→Prop
 | [],_,_=>True
 |k::ks,a,i=>(∃g off,a=some ⟨g,off,none⟩∧NdC w L B k g (off+i*5))∧RowP w L B ks a (i+1)
end
theorem ai9 (w:World) (L B:Nat) (n:Nd) (g o:Nat):NdC w L B n g o= ∃b cap,L≤g∧g<B∧w.cell? ⟨g,o,none⟩=some (.int .i64 n.kind)∧w.cell? ⟨g,o+1,none⟩=some (.string n.text)∧
   w.cell? ⟨g,o+2,none⟩=some (.slice b n.kids.length cap)∧w.cell? ⟨g,o+3,none⟩=some (.int .i64 n.from')∧w.cell? ⟨g,o+4,none⟩=some (.int .i64 n.till)∧n.kids.length≤cap∧RowP w L B n.kids b 0:=by
 cases n
 rw [NdC]
 rfl
theorem af0 {w:World} {L B:Nat} {a:Option Addr} : ∀ {ks:List Nd} {i:Nat},RowP w L B ks a i→∀j,(h:j<ks.length)→∃g off,a=some ⟨g,off,none⟩∧NdC w L B ks[j] g (off+(i+j)*5)
 | [],_,_,j,h=>absurd h (by simp)
 |k::ks,i,hr,j,h=>by
  rw [RowP] at hr
  cases j with
  |zero=>exact hr.1
  |succ j=>
   have:=af0 hr.2 j (by simpa using h)
   rw [show i+1+j=i+(j+1) by omega] at this
   exact this
theorem ao7 {w:World} {L B:Nat} {a:Option Addr} : ∀ {ks:List Nd} {i:Nat},(∀j,(h:j<ks.length)→∃g off,a=some ⟨g,off,none⟩∧NdC w L B ks[j] g (off+(i+j)*5))→RowP w L B ks a i
 | [],_,_=>by rw [RowP];trivial
 |k::ks,i,h=>by
  rw [RowP]
  refine⟨h 0 (by simp),ao7 fun j hj=> ?_⟩
  have:=h (j+1) (by simpa using hj)
  rw [show i+1+j=i+(j+1) by omega]
  exact this
theorem aB3 {w w':World} {L B L' B':Nat} (hL:L'≤L) (hB:B≤B') (hk: ∀k,L≤k→k<B→w'.heap[k]? =w.heap[k]?) (n:Nd): ∀g o,NdC w L B n g o→NdC w' L' B' n g o:=by
 induction n using Nd.ind with
 |h n ih=>
  intro g o h
  rw [ai9] at h⊢
  obtain⟨b,cap,h2,h3,c0,c1,c2,c3,c4,hc,hr⟩:=h
  have hcell: ∀o,w'.cell? ⟨g,o,none⟩=w.cell? ⟨g,o,none⟩:=fun o=>World.cell?_of_block (hk g h2 h3)
  refine⟨b,cap,by omega,by omega,?_,?_,?_,?_,?_,hc,ao7 fun j hj=> ?_⟩
  ·rw [hcell];exact c0
  ·rw [hcell];exact c1
  ·rw [hcell];exact c2
  ·rw [hcell];exact c3
  ·rw [hcell];exact c4
  ·obtain⟨g',off,ha,hn⟩:=af0 hr j hj
   exact⟨g',off,ha,ih _ (List.getElem_mem hj) _ _ hn⟩
theorem ag9 {w w':World} {L B L' B':Nat} (hL:L'≤L) (hB:B≤B') (hk: ∀k,L≤k→k<B→w'.heap[k]? =w.heap[k]?) {ks:List Nd} {a:Option Addr} {i:Nat} (h:RowP w L B ks a i):RowP w' L' B' ks a i:=
 ao7 fun j hj=>by
  obtain⟨g,off,ha,hn⟩:=af0 h j hj
  exact⟨g,off,ha,aB3 hL hB hk _ _ _ hn⟩
theorem aC0 {w w':World} {L B:Nat} {n:Nd} {g o:Nat} (h:NdC w L B n g o) (hb:Below B w w'):NdC w' L B n g o:=aB3 (Nat.le_refl _) (Nat.le_refl _) (fun k _ hk=>hb.block k hk) _ _ _ h
theorem ad5 {w w':World} {L B:Nat} {ks:List Nd} {a:Option Addr} {i:Nat} (h:RowP w L B ks a i) (hb:Below B w w'):RowP w' L B ks a i:=ag9 (Nat.le_refl _) (Nat.le_refl _) (fun k _ hk=>hb.block k hk) h
def NdV (w:World) (L B:Nat) (n:Nd) (v:Value):Prop:= ∃b cap,v= .agg (aa7 n.kind n.text b n.kids.length cap n.from' n.till)∧n.kids.length≤cap∧RowP w L B n.kids b 0
theorem aC1 {w w':World} {L B:Nat} {n:Nd} {v:Value} (h:NdV w L B n v) (hb:Below B w w'):NdV w' L B n v:=by
 obtain⟨b,cap,h1,h2,h3⟩:=h
 exact⟨b,cap,h1,h2,ad5 h3 hb⟩
def ab0 (w:World) (p:Nat) (k:Int) (t:ByteArray) (b:Option Addr) (n cap:Nat) (f u:Int):Prop:=w.heap[p]? =some (.cells (aa7 k t b n cap f u) 27 (0,0))
theorem ab0.lt {w:World} {p:Nat} {k:Int} {t:ByteArray} {b:Option Addr} {n cap:Nat} {f u:Int} (h:ab0 w p k t b n cap f u):p<w.heap.size:=(Array.getElem?_eq_some_iff.1 h).1
theorem ab0.bel {w w':World} {B p:Nat} {k:Int} {t:ByteArray} {b:Option Addr} {n cap:Nat} {f u:Int} (h:ab0 w p k t b n cap f u) (hb:Below B w w') (hp:p<B):ab0 w' p k t b n cap f u:=(hb.block p hp).trans h
theorem ab0.facts {w:World} {p:Nat} {k:Int} {t:ByteArray} {b:Option Addr} {n cap:Nat} {f u:Int} (h:ab0 w p k t b n cap f u):
  w.cell? ⟨p,0,none⟩=some (.int .i64 k)∧w.cell? ⟨p,1,none⟩=some (.string t)∧w.cell? ⟨p,2,none⟩=some (.slice b n cap)∧w.cell? ⟨p,3,none⟩=some (.int .i64 f)∧w.cell? ⟨p,4,none⟩=some (.int .i64 u)∧
  w.frozen? ⟨p,0,none⟩=false∧w.frozen? ⟨p,1,none⟩=false∧w.frozen? ⟨p,2,none⟩=false∧w.frozen? ⟨p,3,none⟩=false∧w.frozen? ⟨p,4,none⟩=false:=by
 have hc:=fun o=>cell_of_row w p o _ _ (0,0) h
 have hf:=fun o=>frozen_of_row w p o _ _ h
 exact⟨hc 0,hc 1,hc 2,hc 3,hc 4,hf 0,hf 1,hf 2,hf 3,hf 4⟩
mutual
def preD:Nat→Nd→List Nat
 |d,.mk _ _ ks _ _=>d::aA9 (d+1) ks
def aA9:Nat→List Nd→List Nat
 |_,[]=> []
 |d,k::ks=>preD d k++aA9 d ks
end
theorem aT7 (d:Nat) (n:Nd):preD d n=d::aA9 (d+1) n.kids:=by cases n;rw [preD];rfl
theorem aQ0 (d:Nat): ∀ks:List Nd,(∀x ∈ ks,(preD d x).length=aa4 x)→(aA9 d ks).length=ag7 ks
 | [],_=>by rw [aA9,ag7];rfl
 |k::ks,h=>by rw [aA9,ag7,List.length_append,h k (.head _),aQ0 d ks (fun x hx=>h x (.tail _ hx))]
theorem bx7 (n:Nd): ∀d,(preD d n).length=aa4 n:=by
 induction n using Nd.ind with
 |h n ih=>
  intro d
  rw [aT7,ac6,List.length_cons,aQ0 (d+1) n.kids (fun x hx=>ih x hx (d+1))]
  omega
theorem aO0 (l:List Nat): ∀a,l.foldl max a=max a (l.foldl max 0):=by
 induction l with
 |nil=>intro a;simp
 |cons x l ih=>
  intro a
  rw [List.foldl_cons,List.foldl_cons,ih (max a x),ih (max 0 x)]
  omega
theorem aQ1 (d:Nat): ∀ks:List Nd,(∀x ∈ ks,(preD d x).foldl max 0=d+af3 x - 1)→(aA9 d ks).foldl max 0=if ks= [] then 0 else d+at9 ks - 1
 | [],_=>by rw [aA9];rfl
 |k::ks,h=>by
  rw [aA9,at9,List.foldl_append,h k (.head _),aO0,aQ1 d ks (fun x hx=>h x (.tail _ hx)),if_neg (show¬(k::ks= []) by simp)]
  have h1:1≤af3 k:=by rw [aE2];omega
  split
  ·rename_i e
   rw [e,at9]
   omega
  ·omega
theorem bx8 (n:Nd): ∀d,(preD d n).foldl max 0=d+af3 n - 1:=by
 induction n using Nd.ind with
 |h n ih=>
  intro d
  rw [aT7,aE2,List.foldl_cons,aO0,aQ1 (d+1) n.kids (fun x hx=>ih x hx (d+1))]
  split
  ·rename_i e
   rw [e,at9]
   omega
  ·omega
end
section
open Go.RowKit
def ad2:List Nd→List (Option Addr × Nat)→List Value
 |n::ns,b::bs=>(aa7 n.kind n.text b.1 n.kids.length b.2 n.from' n.till).toList++ad2 ns bs
 |_,_=> []
theorem az9: ∀(ns:List Nd) (bs:List (Option Addr × Nat)),bs.length=ns.length→(ad2 ns bs).length=ns.length*5
 | [],[],_=>rfl
 | [],_::_,h=>by simp at h
 |_::_,[],h=>by simp at h
 |n::ns,b::bs,h=>by
  rw [ad2,List.length_append,az9 ns bs (by simpa using h),List.length_cons]
  simp [aa7]
  omega
theorem ak6: ∀(ns:List Nd) (bs:List (Option Addr × Nat)) (n:Nd) (b:Option Addr × Nat),bs.length=ns.length→ad2 (ns++ [n]) (bs++ [b])=ad2 ns bs++(aa7 n.kind n.text b.1 n.kids.length b.2 n.from' n.till).toList
 | [],[],_,_,_=>by simp [ad2]
 | [],_::_,_,_,h=>by simp at h
 |_::_,[],_,_,h=>by simp at h
 |m::ns,c::bs,n,b,h=>by
  rw [List.cons_append,List.cons_append,ad2,ad2,ak6 ns bs n b (by simpa using h),List.append_assoc]
theorem am5: ∀(ns:List Nd) (bs:List (Option Addr × Nat)) (hl:bs.length=ns.length) (j i:Nat) (hj:j<ns.length),i<5→(ad2 ns bs)[j*5+i]? =(aa7 ns[j].kind ns[j].text (bs[j]'(by omega)).1 ns[j].kids.length (bs[j]'(by omega)).2 ns[j].from' ns[j].till)[i]?
 | [],_,_,j,_,hj,_=>absurd hj (by simp)
 |_::_,[],h,_,_,_,_=>by simp at h
 |n::ns,b::bs,h,0,i,_,hi=>by
  rw [ad2,Nat.zero_mul,Nat.zero_add,List.getElem?_append_left (by simp [aa7];omega)]
  simp
 |n::ns,b::bs,h,j+1,i,hj,hi=>by
  rw [ad2,List.getElem?_append_right (by simp [aa7];omega)]
  have e:(j+1)*5+i - (aa7 n.kind n.text b.1 n.kids.length b.2 n.from' n.till).toList.length=j*5+i:=by simp [aa7];omega
  rw [e,am5 ns bs (by simpa using h) j i (by simpa using hj) hi]
  rfl
abbrev am8:=World→Nat→Nat→Nd→Option Addr→Nat→Prop
structure bc3 (R:am8):Prop where
 k: ∀ {w w':World} {L B L' B':Nat} {x:Nd} {b:Option Addr} {c:Nat},L'≤L→B≤B'→(∀k,L≤k→k<B→w'.heap[k]? =w.heap[k]?)→R w L B x b c→R w' L' B' x b c
def KRow (R:am8) (w:World) (base:Nat) (v:Value) (xs:List Nd):Prop:=
 ∃bs:List (Option Addr × Nat),bs.length=xs.length∧w.ownsRow base 27 5 v xs.length (ad2 xs bs)∧
  ∀j,(hj:j<xs.length)→(hb:j<bs.length)→∃L B,base≤L∧B≤w.heap.size∧(∀g,v.ownBlock=some g→g<L∨B≤g)∧R w L B xs[j] bs[j].1 bs[j].2
theorem KRow.nil (R:am8) (w:World) (base:Nat):KRow R w base (.slice none 0 0) []:=⟨[],rfl,World.ownsRow_nil _ _ _ _,fun j h=>absurd h (by simp)⟩
theorem KRow.high {R:am8} (hR:bc3 R) {w w':World} {base:Nat} {v:Value} {xs:List Nd} (h:KRow R w base v xs) (hz:w.heap.size≤w'.heap.size) (hk: ∀k,base≤k→k<w.heap.size→w'.heap[k]? =w.heap[k]?):KRow R w' base v xs:=by
 obtain⟨bs,h1,h2,h3⟩:=h
 refine⟨bs,h1,⟨h2.1,?_⟩,fun j hj hbj=> ?_⟩
 ·rcases h2.2 with h|⟨g,cap,cur,hv,hg,hc,r⟩
  ·exact .inl h
  ·exact .inr ⟨g,cap,cur,hv,hg,(hk g hg (Array.getElem?_eq_some_iff.1 hc).1).trans hc,r⟩
 ·obtain⟨L,B,c1,c2,c3,c4⟩:=h3 j hj hbj
  exact⟨L,B,c1,Nat.le_trans c2 hz,c3,hR.k (Nat.le_refl _) (Nat.le_refl _) (fun k k1 k2=>hk k (by omega) (by omega)) c4⟩
theorem KRow.bel {R:am8} (hR:bc3 R) {w w':World} {base:Nat} {v:Value} {xs:List Nd} (h:KRow R w base v xs) (hb:Below w.heap.size w w'):KRow R w' base v xs:=
 h.high hR hb.size fun k _ h2=>hb.block k h2
noncomputable def KRow.cells {R:am8} {w:World} {base:Nat} {v:Value} {xs:List Nd} (h:KRow R w base v xs):List Value:=ad2 xs (Classical.choose h)
theorem KRow.own {R:am8} {w:World} {base m:Nat} {v:Value} {xs:List Nd} (h:KRow R w base v xs) (hm:xs.length=m):w.ownsRow base 27 5 v m h.cells:=by
 subst hm
 exact(Classical.choose_spec h).2.1
theorem KRow.push {R:am8} (hR:bc3 R) {w1 w2:World} {base m:Nat} {v:Value} {xs:List Nd} {x:Nd} {b:Option Addr} {cap g cap2 L B:Nat} {o:Obj} (h:KRow R w1 base v xs) (hm:xs.length=m) (hL:base≤L) (hv: ∀g,v.ownBlock=some g→g<L) (hB:B≤w1.heap.size) (hr:R w1 L B x b cap)
  (ho:w2.ownsRow base 27 5 (.slice (some ⟨g,0,none⟩) (m+1) cap2) (m+1) (h.cells++(aa7 x.kind x.text b x.kids.length cap x.from' x.till).toList)) (hg:(w1.alloc o).grownBy w2 v.ownBlock) (hat:v.ownBlock=some g∨g=w1.heap.size+1):
  KRow R w2 base (.slice (some ⟨g,0,none⟩) (m+1) cap2) (xs++ [x]):=by
 subst hm
 unfold KRow.cells at ho
 obtain⟨h1,h2,h3⟩:=Classical.choose_spec h
 generalize Classical.choose h=bs at*
 have hsz:(w1.alloc o).heap.size=w1.heap.size+1:=World.size_alloc _ _
 have hgs:=hg.size
 have hold: ∀k,k<w1.heap.size→v.ownBlock≠some k→w2.heap[k]? =w1.heap[k]? :=fun k hk hne=>(hg.block k (by omega) (fun e=>hne e.symm)).trans (Below.heap_alloc _ _ _ hk)
 refine⟨bs++ [(b,cap)],by simp [h1],?_,fun j hj hbj=> ?_⟩
 ·rw [ak6 xs bs x (b,cap) h1,List.length_append]
  exact ho
 ·by_cases hlt:j<xs.length
  ·have hbl:j<bs.length:=by omega
   rw [List.getElem_append_left hlt,List.getElem_append_left hbl]
   obtain⟨L',B',c1,c2,c3,c4⟩:=h3 j hlt hbl
   refine⟨L',B',c1,by omega,fun g' e=> ?_,hR.k (Nat.le_refl _) (Nat.le_refl _) (fun k k1 k2=> ?_) c4⟩
   ·have e':g=g':=by simpa [Value.ownBlock] using e
    subst e'
    rcases hat with hat|hat
    ·exact c3 g hat
    ·right;omega
   ·refine hold k (by omega) (fun e=> ?_)
    rcases c3 k e with h|h<;>omega
  ·have hje:j=xs.length:=by simp at hj;omega
   subst hje
   rw [List.getElem_append_right (Nat.le_refl _),List.getElem_append_right (by omega)]
   simp only [Nat.sub_self,List.getElem_cons_zero,h1]
   refine⟨L,B,hL,by omega,fun g' e=> ?_,hR.k (Nat.le_refl _) (Nat.le_refl _) (fun k k1 k2=> ?_) hr⟩
   ·have e':g=g':=by simpa [Value.ownBlock] using e
    subst e'
    rcases hat with hat|hat
    ·left
     exact hv g hat
    ·right;omega
   ·refine hold k (by omega) (fun e=> ?_)
    have:=hv k e
    omega
def bc4 (R:am8) (w:World) (base B:Nat) (x:Nd) (g o:Nat):Prop:=
 base≤g∧g<B∧o % 5=0∧(∀i,i<5→w.frozen? ⟨g,o+i,none⟩=false)∧∃b cap,(∀i,i<5→w.cell? ⟨g,o+i,none⟩=(aa7 x.kind x.text b x.kids.length cap x.from' x.till)[i]?)∧R w base B x b cap
theorem KRow.at' {R:am8} (hR:bc3 R) {w:World} {base:Nat} {v:Value} {xs:List Nd} (h:KRow R w base v xs):
  ∃b cap,v= .slice b xs.length cap∧xs.length≤cap∧∀j,(hj:j<xs.length)→∃g,b=some ⟨g,0,none⟩∧bc4 R w base w.heap.size xs[j] g (j*5):=by
 obtain⟨bs,h1,h2,h3⟩:=h
 rcases h2.2 with ⟨rfl,h0⟩|⟨g,cap,cur,rfl,hg,hc,hn,hrest⟩
 ·have:xs= []:=List.length_eq_zero_iff.1 h0
  subst this
  exact⟨none,0,rfl,Nat.le_refl _,fun j hj=>absurd hj (by simp)⟩
 ·refine⟨_,cap,rfl,hn,fun j hj=>⟨g,rfl,?_⟩⟩
  have hlt:=(Array.getElem?_eq_some_iff.1 hc).1
  have hbj:j<bs.length:=by omega
  have hcell: ∀i,i<5→w.cell? ⟨g,j*5+i,none⟩=(aa7 xs[j].kind xs[j].text bs[j].1 xs[j].kids.length bs[j].2 xs[j].from' xs[j].till)[i]? :=fun i hi=>by
   rw [h2.cellAt (j*5+i) (by omega)]
   exact am5 xs bs h1 j i hj hi
  obtain⟨L,B,c1,c2,_,c4⟩:=h3 j hj hbj
  exact⟨hg,hlt,by omega,fun i hi=>frozen_of_row w g _ _ _ hc,bs[j].1,bs[j].2,hcell,hR.k c1 c2 (fun _ _ _=>rfl) c4⟩
mutual
def ShC (w:World) (L B:Nat):Nd→Nat→Nat→Prop
 | .mk _ _ ks _ _,g,o=>L≤g∧g<B∧o % 5=0∧w.frozen? ⟨g,o,none⟩=false∧(∃z,w.cell? ⟨g,o,none⟩=some (.int .i64 z))∧∃b cap,w.cell? ⟨g,o+2,none⟩=some (.slice b ks.length cap)∧ShR w L B ks b 0
def ShR (w:World) (L B:Nat):List Nd→Option Addr→Nat→Prop
 | [],_,_=>True
 |k::ks,a,i=>(∃g off,a=some ⟨g,off,none⟩∧ShC w L B k g (off+i*5))∧ShR w L B ks a (i+1)
end
theorem bz6 (w:World) (L B:Nat) (n:Nd) (g o:Nat):ShC w L B n g o=(L≤g∧g<B∧o % 5=0∧w.frozen? ⟨g,o,none⟩=false∧(∃z,w.cell? ⟨g,o,none⟩=some (.int .i64 z))∧∃b cap,w.cell? ⟨g,o+2,none⟩=some (.slice b n.kids.length cap)∧ShR w L B n.kids b 0):=by
 cases n
 rw [ShC]
 rfl
theorem aR7 {w:World} {L B:Nat} {a:Option Addr} : ∀ {ks:List Nd} {i:Nat},ShR w L B ks a i→∀j,(h:j<ks.length)→∃g off,a=some ⟨g,off,none⟩∧ShC w L B ks[j] g (off+(i+j)*5)
 | [],_,_,j,h=>absurd h (by simp)
 |k::ks,i,hr,j,h=>by
  rw [ShR] at hr
  cases j with
  |zero=>exact hr.1
  |succ j=>
   have:=aR7 hr.2 j (by simpa using h)
   rw [show i+1+j=i+(j+1) by omega] at this
   exact this
theorem aY7 {w:World} {L B:Nat} {a:Option Addr} : ∀ {ks:List Nd} {i:Nat},(∀j,(h:j<ks.length)→∃g off,a=some ⟨g,off,none⟩∧ShC w L B ks[j] g (off+(i+j)*5))→ShR w L B ks a i
 | [],_,_=>by rw [ShR];trivial
 |k::ks,i,h=>by
  rw [ShR]
  refine⟨h 0 (by simp),aY7 fun j hj=> ?_⟩
  have:=h (j+1) (by simpa using hj)
  rw [show i+1+j=i+(j+1) by omega]
  exact this
theorem br3 {w w':World} {L B L' B':Nat} (hL:L'≤L) (hB:B≤B') (hk: ∀k,L≤k→k<B→w'.heap[k]? =w.heap[k]?) (n:Nd): ∀g o,ShC w L B n g o→ShC w' L' B' n g o:=by
 induction n using Nd.ind with
 |h n ih=>
  intro g o h
  rw [bz6] at h⊢
  obtain⟨h2,h3,h4,h5,⟨z,h6⟩,b,cap,c2,hr⟩:=h
  have hcell: ∀o,w'.cell? ⟨g,o,none⟩=w.cell? ⟨g,o,none⟩:=fun o=>World.cell?_of_block (hk g h2 h3)
  refine⟨by omega,by omega,h4,(World.frozen?_of_block (a:=⟨g,o,none⟩) (hk g h2 h3)).trans h5,⟨z,by rw [hcell];exact h6⟩,b,cap,by rw [hcell];exact c2,aY7 fun j hj=> ?_⟩
  obtain⟨g',off,ha,hn⟩:=aR7 hr j hj
  exact⟨g',off,ha,ih _ (List.getElem_mem hj) _ _ hn⟩
theorem br4 {w w':World} {L B L' B':Nat} (hL:L'≤L) (hB:B≤B') (hk: ∀k,L≤k→k<B→w'.heap[k]? =w.heap[k]?) {ks:List Nd} {a:Option Addr} {i:Nat} (h:ShR w L B ks a i):ShR w' L' B' ks a i:=
 aY7 fun j hj=>by
  obtain⟨g,off,ha,hn⟩:=aR7 h j hj
  exact⟨g,off,ha,br3 hL hB hk _ _ _ hn⟩
def RowE (w:World) (L B:Nat) (x:Nd) (b:Option Addr) (c:Nat):Prop:=x.kids.length≤c∧RowP w L B x.kids b 0∧ShR w L B x.kids b 0
theorem RowE.keeps:bc3 RowE:=⟨fun hL hB hk ⟨h1,h2,h3⟩=>⟨h1,ag9 hL hB hk h2,br4 hL hB hk h3⟩⟩
theorem bc4.ndc {w:World} {L B:Nat} {x:Nd} {g o:Nat} (h:bc4 RowE w L B x g o):NdC w L B x g o:=by
 obtain⟨h1,h2,_,_,b,cap,hc,h3,h4,_⟩:=h
 rw [ai9]
 exact⟨b,cap,h1,h2,hc 0 (by decide),hc 1 (by decide),hc 2 (by decide),hc 3 (by decide),hc 4 (by decide),h3,h4⟩
theorem bc4.shc {w:World} {L B:Nat} {x:Nd} {g o:Nat} (h:bc4 RowE w L B x g o):ShC w L B x g o:=by
 obtain⟨h1,h2,h3,h4,b,cap,hc,_,_,h5⟩:=h
 rw [bz6]
 exact⟨h1,h2,h3,h4 0 (by decide),⟨_,hc 0 (by decide)⟩,b,cap,hc 2 (by decide),h5⟩
theorem KRow.row {w:World} {base:Nat} {v:Value} {xs:List Nd} (h:KRow RowE w base v xs): ∃b cap,v= .slice b xs.length cap∧xs.length≤cap∧RowP w base w.heap.size xs b 0∧ShR w base w.heap.size xs b 0:=by
 obtain⟨b,cap,rfl,hn,hk⟩:=h.at' RowE.keeps
 refine⟨b,cap,rfl,hn,ao7 fun j hj=> ?_,aY7 fun j hj=> ?_⟩
 ·obtain⟨g,rfl,hx⟩:=hk j hj
  exact⟨g,0,rfl,by rw [Nat.zero_add,Nat.zero_add];exact hx.ndc⟩
 ·obtain⟨g,rfl,hx⟩:=hk j hj
  exact⟨g,0,rfl,by rw [Nat.zero_add,Nat.zero_add];exact hx.shc⟩
def NdW (w:World) (L B:Nat) (n:Nd) (v:Value):Prop:= ∃b cap,v= .agg (aa7 n.kind n.text b n.kids.length cap n.from' n.till)∧RowE w L B n b cap
theorem NdW.v {w:World} {L B:Nat} {n:Nd} {v:Value} (h:NdW w L B n v):NdV w L B n v:=by
 obtain⟨b,cap,h1,h2,h3,_⟩:=h
 exact⟨b,cap,h1,h2,h3⟩
theorem NdW.bel {w w':World} {L B:Nat} {n:Nd} {v:Value} (h:NdW w L B n v) (hb:Below B w w'):NdW w' L B n v:=by
 obtain⟨b,cap,h1,h2⟩:=h
 exact⟨b,cap,h1,RowE.keeps.k (Nat.le_refl _) (Nat.le_refl _) (fun k _ hk=>hb.block k hk) h2⟩
theorem ae3 {w:World} {base size g cap n:Nat} {e:TypeId} {xs:List Value} (h:w.ownsRow base e size (.slice (some ⟨g,0,none⟩) n cap) n xs) (j:Nat) (u:Value):
  (w.setCell ⟨g,j,none⟩ u).ownsRow base e size (.slice (some ⟨g,0,none⟩) n cap) n (xs.set j u):=by
 refine⟨by rw [List.length_set];exact h.1,?_⟩
 rcases h.2 with ⟨hv,_⟩|⟨g',cap',cur,hv,hb,hc,h1,h2,h3,h4⟩
 ·cases hv
 ·have e1:g=g'∧cap=cap':=by
   injection hv with a b c
   injection a with a
   injection a with a
   exact⟨a,c⟩
  obtain⟨rfl,rfl⟩:=e1
  refine .inr ⟨g,cap,cur.setIfInBounds j u,rfl,hb,heap_setCell_same w g j cur e u hc,h1,h2,by simpa using h3,?_⟩
  rw [Array.toList_setIfInBounds,←h4,List.take_set]
end
section
open Go.RowKit
theorem aH5 {w:World} {L B:Nat} {a:Option Addr} {ks:List Nd} (h:RowP w L B ks a 0) (j:Nat) (hj:j<ks.length):
  ∃g off b cap,a=some ⟨g,off,none⟩∧g<B∧w.cell? ⟨g,off+j*5,none⟩=some (.int .i64 ks[j].kind)∧w.cell? ⟨g,off+j*5+1,none⟩=some (.string ks[j].text)∧
   w.cell? ⟨g,off+j*5+2,none⟩=some (.slice b ks[j].kids.length cap)∧w.cell? ⟨g,off+j*5+3,none⟩=some (.int .i64 ks[j].from')∧w.cell? ⟨g,off+j*5+4,none⟩=some (.int .i64 ks[j].till)∧
   NdV w L B ks[j] (.agg #[.int .i64 ks[j].kind,.string ks[j].text,.slice b ks[j].kids.length cap,.int .i64 ks[j].from',.int .i64 ks[j].till]):=by
 obtain⟨g,off,ha,hn⟩:=af0 h j hj
 rw [Nat.zero_add,ai9] at hn
 obtain⟨b,cap,_,h3,c0,c1,c2,c3,c4,hc,hr⟩:=hn
 exact⟨g,off,b,cap,ha,h3,c0,c1,c2,c3,c4,b,cap,rfl,hc,hr⟩
theorem kid_size {n:Nd} {j:Nat} (h:j<n.kids.length):aa4 n.kids[j]<aa4 n:=by
 have:=aj5 (List.getElem_mem h)
 rw [ac6 n]
 omega
theorem aw0 (n:Nd):n.kids.length<aa4 n:=by
 have:=ba2 n.kids
 rw [ac6 n]
 omega
structure NSt (w0:World) (p L B:Nat) (n:Nd) (b:Option Addr) (cap:Nat) (wr:World):Prop where
 box:ab0 wr p n.kind n.text b n.kids.length cap n.from' n.till
 row:RowP wr L B n.kids b 0
 bel:Below w0.heap.size w0 wr
 hp:w0.heap.size≤p
 hB:B≤w0.heap.size
theorem NSt.bel' {w0 wr w':World} {p L B:Nat} {n:Nd} {b:Option Addr} {cap:Nat} (h:NSt w0 p L B n b cap wr) (hb:Below wr.heap.size wr w'):NSt w0 p L B n b cap w':=
 ⟨h.box.bel hb h.box.lt,ad5 h.row (hb.mono (Nat.le_trans h.hB h.bel.size)),aa0 h.bel hb,h.hp,h.hB⟩
theorem NSt.new {w:World} {L B:Nat} {n:Nd} {b:Option Addr} {cap:Nat} (hr:RowP w L B n.kids b 0) (hB:B≤w.heap.size):
  NSt w w.heap.size L B n b cap (w.alloc (.cells #[.int .i64 n.kind,.string n.text,.slice b n.kids.length cap,.int .i64 n.from',.int .i64 n.till] 27)):=
 ⟨heap_alloc_new _ _,ad5 hr ((Below.alloc (Below.refl _ w) (Nat.le_refl _) _).mono hB),Below.alloc (Below.refl _ w) (Nat.le_refl _) _,Nat.le_refl _,hB⟩
end
section
open Go.RowKit
variable {F:Fence} {n:Nat} {P:Program}
def am9 (B:Nat) (W W':World):Prop:=W.heap.size≤W'.heap.size∧∀k,B≤k→k<W.heap.size→W'.heap[k]? =W.heap[k]?
theorem am9.refl (B:Nat) (W:World):am9 B W W:=⟨Nat.le_refl _,fun _ _ _=>rfl⟩
theorem am9.trans {B:Nat} {A C D:World} (h:am9 B A C) (k:am9 B C D):am9 B A D:=⟨Nat.le_trans h.1 k.1,fun i h1 h2=>(k.2 i h1 (Nat.lt_of_lt_of_le h2 h.1)).trans (h.2 i h1 h2)⟩
theorem am9.mono {B B':Nat} {A C:World} (h:am9 B A C) (hB:B≤B'):am9 B' A C:=⟨h.1,fun i h1 h2=>h.2 i (Nat.le_trans hB h1) h2⟩
theorem am9.setCell {B:Nat} {A C:World} (h:am9 B A C) {p:Addr} (hp:p.block<B) (v:Value):am9 B A (C.setCell p v):=
 ⟨by have:=h.1;simpa [World.setCell] using this,fun k h1 h2=>(Below.heap_setCell _ _ _ _ (by omega)).trans (h.2 k h1 h2)⟩
theorem am9.alloc {B:Nat} {A C:World} (h:am9 B A C) (o:Obj):am9 B A (C.alloc o):=
 ⟨by rw [World.size_alloc];have:=h.1;omega,fun k h1 h2=>(Below.heap_alloc C o k (Nat.lt_of_lt_of_le h2 h.1)).trans (h.2 k h1 h2)⟩
def bz5 {α:Type} (F:Fence) (n:Nat) (P:Program) (g:Nat) (lb:Array Value) (encs:α→Array Value) (T:World→Prop) (N:Nat) (Fin:List α→Prop) (w:World):Prop:=
 ∀(l:Nat) (J:List α→World→Prop) (W:World),Below w.heap.size w W→(∀s A B,J s A→Below W.heap.size A B→J s B)→(∀s A,J s A→T A)→
  (∀pre x W1,J pre W1→pre.length<N→W.heap.size≤W1.heap.size→YieldAt F (n - 1) P l (encs x) W1 fun e W'=>e= .returned (.bool true)∧J (pre++ [x]) W'∧am9 W.heap.size W1 W')→
  J [] W→CallsIn F n P g (#[.func (.yield l) #[] #[]]++lb) W fun e W'=>(∃v,e= .returned v)∧∃xs,Fin xs∧J xs W'
def bJ5 {α:Type} (B:Nat) (I:List α→World→Prop) (xs:List α) (W:World):Exit→Act→World→Prop
 | .normal,_,W'=>am9 B W W'∧I xs W'
 |_,_,_=>False
theorem au9 (W:World) (l:Nat) (o:Obj) (B:Nat) (h:B≤l):Below B W (W.putObj l o):=
 ⟨rfl,rfl,rfl,by simp,fun k hk=>World.putObj_heap_other (by omega)⟩
theorem aR2 (W:World) (l:Nat) (o:Obj) (B:Nat) (h:l<B):am9 B W (W.putObj l o):=⟨by simp,fun k h1 _=>World.putObj_heap_other (by omega)⟩
theorem au5 {α:Type} {g:Operand} {ps:Array Tmp} {assign body:Code} {Q:Exit→Act→World→Prop} {a:Act} {w:World}
  (hro:F.round=none) (h1:1≤n) {gf:Nat} {lb:Array Value} (hg:a.eval g= .func (.func gf) #[] lb) (hFg:F.fn gf) (eg: ∀args w,(callFunc gf args).run P w= .ok (.enter gf args) w)
  {encs:α→Array Value} {T:World→Prop} {N:Nat} {Fin:List α→Prop} (hseq:bz5 F (n - 1) P gf lb encs T N Fin w) (hps: ∀x,(encs x).size=ps.size)
  (I:List α→World→Prop) (hIa: ∀s A B,I s A→Below w.heap.size A B→I s B) (hIT: ∀s A,I s A→T A) (h0:I [] w) (a₁:α→Act)
  (hassign: ∀(l:Nat) (x:α) (W:World) (K:Act→World→Prop),K (a₁ x) W→
   assign.wpIn (F.inRound l) (n - 1 - 1) P (Exit.then K (fun _ _ _=>False)) { tmps:=(ps.zip (encs x)).foldl (fun t (p,v)=>t.setIfInBounds p v) a.tmps,defers:= [] } W)
  (hbody: ∀(l:Nat) (pre:List α) (x:α) (W:World),I pre W→pre.length<N→w.heap.size≤W.heap.size→body.wpIn (F.inRound l) (n - 1 - 1) P (bJ5 w.heap.size I (pre++ [x]) W) (a₁ x) W)
  (hdone: ∀(D:Nat) (W:World) (xs:List α),w.heap.size≤D→Fin xs→I xs W→W.heap[D]? =some (.deferred (some []))→Q .normal { a with defers:= { target:= .collected D,args:= #[] } ::a.defers } W):
  (Code.rangeFunc g ps assign body).wpIn F n P Q a w:=by
 refine wpIn_rangeFunc fun fn hfn=> ?_
 rw [hro]
 let rec':LoopState→Loop:=fun st=> { state:=st,pending:=none,fn:=fn,tmps:=a.tmps,params:=ps,assign:=assign,body:=body,defers:=w.heap.size }
 let W1:World:=(w.alloc (.deferred (some []))).alloc (.loop (rec' .ready))
 have hs1:W1.heap.size=w.heap.size+2:=by show((w.alloc _).alloc _).heap.size=_;rw [World.size_alloc,World.size_alloc]
 have hL1:W1.heap[w.heap.size+1]? =some (.loop (rec' .ready)):=by
  have:=World.alloc_heap_new (w.alloc (.deferred (some []))) (.loop (rec' .ready))
  rwa [World.size_alloc] at this
 have hK1:W1.heap[w.heap.size]? =some (.deferred (some [])):=(Below.heap_alloc _ _ _ (by simp)).trans (World.alloc_heap_new w _)
 have hB1:Below w.heap.size w W1:=((Below.refl _ w).alloc (Nat.le_refl _) _).alloc (by simp) _
 refine⟨w.heap.size+1,[{ target:= .collected w.heap.size,args:= #[] }],W1,{ target:= .fn (.func gf) lb,args:= #[.func (.yield (w.heap.size+1)) #[] #[]] },W1,gf,
  #[.func (.yield (w.heap.size+1)) #[] #[]]++lb,W1,run_enterLoop_outer _ _ _ _ _,?_,?_,?_,fun _=>h1,?_⟩
 ·simp only [resolve,hg]
  simp [go_sem]
 ·intro f' hf';simp [Target.leads] at hf';subst hf';exact hFg
 ·simp [invoke,go_sem,eg]
 refine(hseq (w.heap.size+1)
  (fun pre W=>I pre W∧W.heap[w.heap.size+1]? =some (.loop (rec' .ready))∧W.heap[w.heap.size]? =some (.deferred (some [])))
  W1 hB1 ?_ ?_ ?_ ⟨hIa _ _ _ h0 hB1,hL1,hK1⟩).mono ?_
 ·rintro s A B ⟨hi,hl,hk⟩ hb
  rw [hs1] at hb
  exact⟨hIa _ _ _ hi (hb.mono (by omega)),(hb.block _ (by omega)).trans hl,(hb.block _ (by omega)).trans hk⟩
 ·rintro s A ⟨hi,_,_⟩
  exact hIT _ _ hi
 ·rintro pre x W ⟨hi,hl,hk⟩ hlen hsz
  have hlt:w.heap.size+1<W.heap.size:=(Array.getElem?_eq_some_iff.1 hl).1
  refine⟨fn,_,assign,body,run_yield (P:=P) (args:=encs x) hl (hps x),roundIn_of_wpIn hfn (hassign _ x W _ ⟨_,run_beginRound hl rfl,?_⟩)⟩
  have hl2:(W.putObj (w.heap.size+1) (.loop (rec' .busy))).heap[w.heap.size+1]? =some (.loop (rec' .busy)):=World.putObj_heap_same hlt
  have hk2:(W.putObj (w.heap.size+1) (.loop (rec' .busy))).heap[w.heap.size]? =some (.deferred (some [])):=(World.putObj_heap_other (by omega)).trans hk
  have hz2:(W.putObj (w.heap.size+1) (.loop (rec' .busy))).heap.size=W.heap.size:=by simp
  refine wpIn_mono (hbody _ pre x _ (hIa _ _ _ hi (au9 _ _ _ _ (by omega))) hlen (by rw [hz2];omega)) ?_
  rintro e a3 W3 hp
  cases e with
  |normal=>
   obtain⟨hk3,hi3⟩:=hp
   have hl3:=(hk3.2 _ (by omega) (by rw [hz2];omega)).trans hl2
   have hd3:=(hk3.2 _ (by omega) (by rw [hz2];omega)).trans hk2
   have hlt3:=(Array.getElem?_eq_some_iff.1 hl3).1
   refine⟨_,_,run_endRound (P:=P) none hl3,rfl,⟨hIa _ _ _ hi3 (au9 _ _ _ _ (by omega)),World.putObj_heap_same hlt3,(World.putObj_heap_other (by omega)).trans hd3⟩,?_⟩
   refine((aR2 W _ (.loop (rec' .busy)) _ (by omega)).trans (hk3.mono (by omega))).trans (aR2 W3 _ _ _ (by omega))
  |ret=>exact hp.elim
  |exit id=>exact hp.elim
  |goto t=>exact hp.elim
  |panic ch=>exact hp.elim
  |outgrown=>exact hp.elim
 ·rintro e W2 ⟨⟨v,rfl⟩,xs,hfin,hi,hl,hk⟩
  exact⟨none,_,run_endLoop (P:=P) hl (by simp [rec']),hdone _ _ xs (Nat.le_refl _) hfin (hIa _ _ _ hi (au9 _ _ _ _ (by omega))) ((World.putObj_heap_other (by omega)).trans hk)⟩
end
section
open Go.RowKit
abbrev Pl:=Nat × Addr × Nd
def al7:List Pl→List Value
 | []=> []
 |p::ps=>al7 ps++ [.int .i64 p.1,.pointer (some p.2.1)]
theorem aj6: ∀ps:List Pl,(al7 ps).length=ps.length*2
 | []=>rfl
 |p::ps=>by rw [al7,List.length_append,aj6 ps];simp;omega
def bl5 (b:Option Addr) (j:Nat):Addr:=match b with
 |some a=>⟨a.block,a.off+j*5,none⟩
 |none=>⟨0,0,none⟩
def ai1 (d:Nat) (b:Option Addr):List Nd→Nat→List Pl
 | [],_=> []
 |k::ks,j=>(d,bl5 b j,k)::ai1 d b ks (j+1)
theorem aD6 (d:Nat) (b:Option Addr): ∀(ks:List Nd) (j:Nat),(ai1 d b ks j).length=ks.length
 | [],_=>rfl
 |k::ks,j=>by rw [ai1,List.length_cons,aD6 d b ks (j+1),List.length_cons]
def plD:List Pl→List Nat
 | []=> []
 |p::ps=>preD p.1 p.2.2++plD ps
def plN:List Pl→Nat
 | []=>0
 |p::ps=>aa4 p.2.2+plN ps
theorem aI8: ∀(a b:List Pl),plD (a++b)=plD a++plD b
 | [],_=>rfl
 |p::ps,b=>by rw [List.cons_append,plD,plD,aI8 ps b,List.append_assoc]
theorem ao1: ∀(a b:List Pl),plN (a++b)=plN a+plN b
 | [],_=>by rw [List.nil_append,plN,Nat.zero_add]
 |p::ps,b=>by rw [List.cons_append,plN,plN,ao1 ps b];omega
theorem bb3 (d:Nat) (b:Option Addr): ∀(ks:List Nd) (j:Nat),plD (ai1 d b ks j)=aA9 d ks
 | [],_=>by rw [ai1,plD,aA9]
 |k::ks,j=>by rw [ai1,plD,aA9,bb3 d b ks]
theorem aw7 (d:Nat) (b:Option Addr): ∀(ks:List Nd) (j:Nat),plN (ai1 d b ks j)=ag7 ks
 | [],_=>by rw [ai1,plN,ag7]
 |k::ks,j=>by rw [ai1,plN,ag7,aw7 d b ks]
theorem ay5 (d:Nat) (b:Option Addr) (ks:List Nd) (i:Nat) (h:i<ks.length):ai1 d b (ks.drop i) i=(d,bl5 b i,ks[i])::ai1 d b (ks.drop (i+1)) (i+1):=by
 rw [List.drop_eq_getElem_cons h,ai1]
theorem bm0: ∀ps:List Pl,ps.length≤plN ps
 | []=>Nat.le_refl _
 |p::ps=>by
  rw [plN,List.length_cons,ac6]
  have:=bm0 ps
  omega
def PlOk (w:World) (L B:Nat) (ps:List Pl):Prop:= ∀p ∈ ps,∃g o,p.2.1=⟨g,o,none⟩∧NdC w L B p.2.2 g o
theorem PlOk.kids {w:World} {L B d:Nat} {n:Nd} {b:Option Addr} (h:RowP w L B n.kids b 0) (i:Nat):PlOk w L B (ai1 d b (n.kids.drop i) i):=by
 have key: ∀(m i:Nat),n.kids.length - i=m→PlOk w L B (ai1 d b (n.kids.drop i) i):=by
  intro m
  induction m with
  |zero=>
   intro i hm
   rw [List.drop_eq_nil_of_le (by omega),ai1]
   intro p hp
   cases hp
  |succ m ih=>
   intro i hm
   have hi:i<n.kids.length:=by omega
   rw [ay5 d b n.kids i hi]
   intro p hp
   rcases List.mem_cons.1 hp with rfl|hp
   ·obtain⟨g,off,rfl,hn⟩:=af0 h i hi
    rw [Nat.zero_add] at hn
    exact⟨g,off+i*5,rfl,hn⟩
   ·exact ih (i+1) (by omega) p hp
 exact key _ i rfl
theorem aE8 {w:World} {base:Nat} {e:TypeId} {g n cap:Nat} {xs ys:List Value} {size:Nat} (h:w.ownsRow base e size (.slice (some ⟨g,0,none⟩) (n+1) cap) (n+1) (xs++ys)) (hx:xs.length=n*size):w.ownsRow base e size (.slice (some ⟨g,0,none⟩) n cap) n xs:=by
 refine⟨hx,.inr ?_⟩
 rcases h.2 with ⟨hv,_⟩|⟨g',cap',cur,hv,hg,hc,hn,hm,hs,ht⟩
 ·cases hv
 ·simp only [Value.slice.injEq,Option.some.injEq,Addr.mk.injEq,true_and,and_true] at hv
  obtain⟨rfl,rfl⟩:=hv
  refine⟨g,cap,cur,rfl,hg,hc,by omega,hm,hs,?_⟩
  have:=congrArg (List.take (n*size)) ht
  rw [List.take_take,List.take_left' hx,Nat.min_eq_left (Nat.mul_le_mul_right _ (by omega))] at this
  exact this
theorem aA0 {w:World} {base:Nat} {e:TypeId} {v:Value} {n size:Nat} {xs:List Value} (h:w.ownsRow base e size v n xs) (hn:0<n): ∃g cap,v= .slice (some ⟨g,0,none⟩) n cap∧base≤g∧g<w.heap.size∧n≤cap:=by
 rcases h.2 with ⟨_,h0⟩|⟨g,cap,cur,rfl,hg,hc,hk,_⟩
 ·omega
 ·exact⟨g,cap,rfl,hg,(Array.getElem?_eq_some_iff.1 hc).1,hk⟩
theorem au1 {w:World} {base:Nat} {e:TypeId} {v:Value} {n size:Nat} {xs:List Value} (h:w.ownsRow base e size v n xs): ∃b cap,v= .slice b n cap:=by
 rcases h.2 with ⟨rfl,rfl⟩|⟨g,cap,cur,rfl,_⟩
 ·exact⟨none,0,rfl⟩
 ·exact⟨_,cap,rfl⟩
theorem bI4:(Tryz.prog.info? 143).map (fun i=>(i.zero,i.size,i.bytes))=some (some (.agg #[.int .i64 0,.pointer none]),2,16):=by kernel_rfl
theorem aL5 {W A B:World} {base:Nat} {e:TypeId} {v:Value} {n size:Nat} {xs:List Value} (h:A.ownsRow base e size v n xs) (hb:base=W.heap.size) (hu:am9 W.heap.size A B):B.ownsRow base e size v n xs:=by
 refine⟨h.1,?_⟩
 rcases h.2 with h2|⟨g,cap,cur,hv,hg,hc,rest⟩
 ·exact .inl h2
 ·exact .inr ⟨g,cap,cur,hv,hg,(hu.2 g (by omega) (Array.getElem?_eq_some_iff.1 hc).1).trans hc,rest⟩
structure WkS (w W:World) (L B:Nat) (n:Nd) (J:List (Nat × Addr)→World→Prop) (pre:List (Nat × Addr)) (st:List Pl) (v:Value) (wr:World):Prop where
 deps:pre.map Prod.fst++plD st=preD 1 n
 many:pre.length+plN st=aa4 n
 ok:PlOk w L B st
 dep: ∀p ∈ st,p.1+aa4 p.2.2≤4194305
 row:wr.ownsRow W.heap.size 143 2 v st.length (al7 st)
 inv:J pre wr
 size:W.heap.size≤wr.heap.size
theorem PlOk.head {w:World} {L B:Nat} {p:Pl} {ps:List Pl} (h:PlOk w L B (p::ps)):(∃g o,p.2.1=⟨g,o,none⟩∧NdC w L B p.2.2 g o)∧PlOk w L B ps:=⟨h p (.head _),fun q hq=>h q (.tail _ hq)⟩
theorem PlOk.append {w:World} {L B:Nat} {ps qs:List Pl} (h:PlOk w L B ps) (k:PlOk w L B qs):PlOk w L B (ps++qs):=fun p hp=>by
 rcases List.mem_append.1 hp with hp|hp
 ·exact h p hp
 ·exact k p hp
theorem PlOk.one {w:World} {L B d g o:Nat} {n:Nd} (h:NdC w L B n g o):PlOk w L B [(d,⟨g,o,none⟩,n)]:=fun p hp=>by
 rcases List.mem_cons.1 hp with rfl|hp
 ·exact⟨g,o,rfl,h⟩
 ·cases hp
structure WkI (w W:World) (L B:Nat) (d xq ga oa:Nat) (t:Nd) (b:Option Addr) (rest:List Pl) (J:List (Nat × Addr)→World→Prop) (pre:List (Nat × Addr)) (cap2 j:Nat) (v:Value) (wr:World):Prop where
 row:wr.ownsRow W.heap.size 143 2 v (ai1 (d+1) b (t.kids.drop j) j++rest).length (al7 (ai1 (d+1) b (t.kids.drop j) j++rest))
 box:wr.heap[xq]? =some (.cells #[.int .i64 d,.pointer (some ⟨ga,oa,none⟩)] 143 (0,0))
 inv:J pre wr
 size:W.heap.size≤wr.heap.size
 cell:wr.cell? ⟨ga,oa+2,none⟩=some (.slice b t.kids.length cap2)
 far:v.ownBlock≠some xq
theorem aD7 {d:Nat} {b:Option Addr} {p:Pl} : ∀ {ks:List Nd} {j:Nat},p ∈ ai1 d b ks j→∃x ∈ ks,p.1=d∧p.2.2=x
 | [],_,h=>by cases h
 |k::ks,j,h=>by
  rw [ai1] at h
  rcases List.mem_cons.1 h with rfl|h
  ·exact⟨k,.head _,rfl,rfl⟩
  ·obtain⟨x,hx,e⟩:=aD7 h
   exact⟨x,.tail _ hx,e⟩
theorem bG7 (d:Int) (a:Option Addr): ∀y ∈ ([.int .i64 d,.pointer a]:List Value),y.oneCell'=true:=by
 intro y hy
 simp only [List.mem_cons,List.not_mem_nil,or_false] at hy
 rcases hy with rfl|rfl<;>rfl
theorem bb4 {w2 w3:World} {o:Obj} {v:Value} {base n size i:Nat} {e:TypeId} {ys:List Value} (hg:(w2.alloc o).grownBy w3 v.ownBlock) (ho:w2.ownsRow base e size v n ys) (hi:i<base) (hb:base≤w2.heap.size):w3.heap[i]? =w2.heap[i]? :=by
 refine(hg.block i (by rw [World.size_alloc];omega) (fun e=> ?_)).trans (Below.heap_alloc _ _ _ (by omega))
 have:=(ho.lt i e.symm).1
 omega
theorem aJ1 {w2 w3:World} {o:Obj} {v:Value} {base n size:Nat} {e:TypeId} {ys:List Value} (hg:(w2.alloc o).grownBy w3 v.ownBlock) (ho:w2.ownsRow base e size v n ys) (hb:base≤w2.heap.size):Below base w2 w3:=by
 refine((Below.refl base w2).alloc hb o).grown hg (by rw [World.size_alloc];omega) (fun i e=> ?_)
 exact(ho.lt i e).1
theorem by2 {w2 w3:World} {o:Obj} {v:Value} {i:Nat} (hg:(w2.alloc o).grownBy w3 v.ownBlock) (hi:i<w2.heap.size) (hne:v.ownBlock≠some i):w3.heap[i]? =w2.heap[i]? :=
 (hg.block i (by rw [World.size_alloc];omega) (fun e=>hne e.symm)).trans (Below.heap_alloc _ _ _ hi)
attribute [local go_sem] Oper.semAt_some
theorem bz3 (n:Nd) (m:Nat) (hm:1≤m) (g o L B bn:Nat) (w:World) (hbox:w.heap[bn]? =some (.cells #[.pointer (some ⟨g,o,none⟩)] 53 (0,0))) (hn:NdC w L B n g o) (hB:B≤w.heap.size) (hsz:aa4 n≤4194304):
  bz5 Fence.wide m Tryz.prog 107 #[.pointer (some ⟨bn,0,none⟩)] (fun x:Nat × Addr=> #[.int .i64 x.1,.pointer (some x.2)]) (fun A=> ∀k,L≤k→k<B→A.heap[k]? =w.heap[k]?) (aa4 n) (fun xs=>xs.map Prod.fst=preD 1 n) w:=by
 intro l J W hW hJa hT hY h0
 have hbW:W.heap[bn]? =some (.cells #[.pointer (some ⟨g,o,none⟩)] 53 (0,0)):=(hW.block bn (Array.getElem?_eq_some_iff.1 hbox).1).trans hbox
 refine callsIn_of_wp Tryz.func107 rfl trivial ?_ rfl
 simp only [Tryz.ntmps107,List.size_toArray,List.length_cons,List.length_nil,Nat.reduceAdd,Nat.reduceSub,Array.replicate_succ,Array.replicate_zero,List.push_toArray,List.append_toArray,List.nil_append,List.cons_append]
 have HJa:=hJ hJa
 have HT:=hJ hT
 have HY:=hJ hY
 have hc:=cell_of_row W bn 0 _ _ _ hbW
 have HST:=hJ (show WkS w W L B n J [] [(1,⟨g,o,none⟩,n)] (.slice (some ⟨W.heap.size,0,none⟩) 1 1) (W.alloc (.cells #[.int .i64 1,.pointer (some ⟨g,o,none⟩)] 143)) from
  ⟨by rw [List.map_nil,List.nil_append,plD,plD,List.append_nil],by rw [plN,plN];simp,PlOk.one hn,(fun p hp=>by
   rcases List.mem_cons.1 hp with rfl|hp
   ·show 1+aa4 n≤_;omega
   ·cases hp),World.ownsRow_lit W #[.int .i64 1,.pointer (some ⟨g,o,none⟩)] 1 (Nat.le_refl _) (by decide) rfl,hJa _ _ _ h0 (Below.alloc (Below.refl _ _) (Nat.le_refl _) _),by rw [World.size_alloc];omega⟩)
 have hwW:=hW.size
 clear hJa hT hY hW hbW h0 hn
 obtain⟨i0,hi,hz0,hz1,hz2⟩:=info_parts bI4
 gi_wp2_with fail
 gi_loopg [3] (aa4 n) (fun s v wr=> ∃(pre:List (Nat × Addr)) (st:List Pl),s=plN st∧WkS w W L B n J pre st v wr)
 case atStart=>exact⟨[],_,by rw [plN,plN,Nat.add_zero],HST.out⟩
 case round=>
  clear HST
  obtain⟨pre,st,hs,hst⟩:=hrel
  have HS:=hJ hs
  clear hs
  cases st with
  |nil=>
   have HST:=hJ hst
   obtain⟨b,cap,rfl⟩:=au1 hst.row
   clear hst
   gi_wp2_with fail
   go_end0
   exact⟨⟨_,rfl⟩,pre,by have:=HST.out.deps;rw [plD,List.append_nil] at this;exact this,HST.out.inv⟩
  |cons x rest=>
   obtain⟨d,a,t⟩:=x
   obtain⟨g1,cap1,rfl,hg1,hg1w,hn1⟩:=aA0 hst.row (Nat.succ_pos _)
   obtain⟨⟨ga,oa,ha,hna⟩,hok⟩:=hst.ok.head
   simp only at ha hna
   subst ha
   have c0:wr.cell? ⟨g1,rest.length*2,none⟩=some (.int .i64 d):=by
    rw [hst.row.cellAt (rest.length*2) (by simp),al7,List.getElem?_append_right (by rw [aj6];exact Nat.le_refl _),aj6,Nat.sub_self];rfl
   have c1:wr.cell? ⟨g1,rest.length*2+1,none⟩=some (.pointer (some ⟨ga,oa,none⟩)):=by
    rw [hst.row.cellAt (rest.length*2+1) (by simp;omega),al7,List.getElem?_append_right (by rw [aj6];omega),aj6,Nat.add_sub_cancel_left];rfl
   have HROW:=hJ (aE8 hst.row (aj6 rest))
   have HST:=hJ hst
   have HNA:=hJ hna
   have HOK:=hJ hok
   have hpl:pre.length<aa4 n:=by have:=hst.many;rw [plN,ac6] at this;omega
   have hrl:rest.length≤4194304:=by have:=hst.many;have:=bm0 rest;rw [plN] at*;omega
   have hdl:d+aa4 t≤4194305:=hst.dep _ (.head _)
   have htc:=aw0 t
   have hj1:=HJa.out _ _ _ hst.inv (Below.alloc (Below.refl _ wr) hst.size (.cells #[.int .i64 d,.pointer (some ⟨ga,oa,none⟩)] 143))
   obtain⟨fn,tmps,assign,body,hy,hR⟩:=HY.out pre (d,⟨ga,oa,none⟩) (wr.alloc (.cells #[.int .i64 d,.pointer (some ⟨ga,oa,none⟩)] 143)) hj1 hpl (by rw [World.size_alloc];have:=hst.size;omega)
   have HXB:=hJ (heap_alloc_new wr (.cells #[.int .i64 d,.pointer (some ⟨ga,oa,none⟩)] 143))
   have hws:=hst.size
   simp only [List.length_cons] at hn1⊢
   clear hst hna hok hj1
   gi_wp2_with fail
   refine hR.mono ?_
   rintro e W' ⟨rfl,hJ',hk⟩
   have hxb:W'.heap[wr.heap.size]? =some (.cells #[.int .i64 d,.pointer (some ⟨ga,oa,none⟩)] 143 (0,0)):=(hk.2 _ hws (by rw [World.size_alloc];omega)).trans HXB.out
   have hrow:W'.ownsRow W.heap.size 143 2 (.slice (some ⟨g1,0,none⟩) rest.length cap1) rest.length (al7 rest):=aL5 (HROW.out.alloc _) rfl hk
   have hWW:W.heap.size≤W'.heap.size:=by have:=hk.1;rw [World.size_alloc] at this;omega
   have hna2:=aB3 (Nat.le_refl _) (Nat.le_refl _) (HT.out _ _ hJ') _ _ _ HNA.out
   rw [ai9] at hna2
   obtain⟨b2,cap2,_,hgaB,_,_,k2,_,_,hcap2,hrow2⟩:=hna2
   have hxl:=(Array.getElem?_eq_some_iff.1 hxb).1
   have x0:=cell_of_row W' wr.heap.size 0 _ _ _ hxb
   have x1:=cell_of_row W' wr.heap.size 1 _ _ _ hxb
   have HIN:=hJ (show WkI w W L B d wr.heap.size ga oa t b2 rest J (pre++ [(d,⟨ga,oa,none⟩)]) cap2 t.kids.length (.slice (some ⟨g1,0,none⟩) rest.length cap1) W' from
    ⟨by rw [List.drop_length,ai1,List.nil_append];exact hrow,hxb,hJ',hWW,k2,fun e=>by
     have e2:g1=wr.heap.size:=by simpa [Value.ownBlock] using e
     omega⟩)
   have HPK:=hJ (fun i=>PlOk.kids (d:=d+1) (ag9 (w':=w) (Nat.le_refl _) (Nat.le_refl _) (fun k h1 h2=>(HT.out _ _ hJ' k h1 h2).symm) hrow2) i)
   have hgaW:ga<W.heap.size:=by omega
   have HRB:=hJ (show∀i,i<t.kids.length→∃g off,b2=some ⟨g,off,none⟩ from fun i hi=>by obtain⟨g,off,e,_⟩:=af0 hrow2 i hi;exact⟨g,off,e⟩)
   generalize hxq:wr.heap.size=xq at*
   have hxqW:W.heap.size≤xq:=hws
   have HWS:=hJ hws
   clear hy hR hk hxb hrow hrow2 hJ' c0 c1 hxq hws
   gi_wp2_with fail
   clear x0 x1 k2
   gi_loopw [3,5] (fun v i wr=> ∃j:Nat,j≤t.kids.length∧i= .int .i64 ((j:Int) - 1)∧WkI w W L B d xq ga oa t b2 rest J (pre++ [(d,⟨ga,oa,none⟩)]) cap2 j v wr) (fun _ i _=>(intOf i+1).toNat)
   case atStart=>exact⟨t.kids.length,Nat.le_refl _,rfl,HIN.out⟩
   case round=>
    clear HIN
    obtain⟨j,hj,rfl,hin⟩:=hrel
    have HIN:=hJ hin
    have hxl2:=(Array.getElem?_eq_some_iff.1 hin.box).1
    have x0:=cell_of_row _ xq 0 _ _ _ hin.box
    have x1:=cell_of_row _ xq 1 _ _ _ hin.box
    have k2:=hin.cell
    cases j with
    |zero=>
     have e0:(((0:Nat):Int) - 1)= -1:=rfl
     rw [e0]
     clear e0
     gi_wp2_with fail
     gi_roundg (plN (ai1 (d+1) b2 t.kids 0++rest))
     case measure=>rw [HS.out,ao1,aw7];show _<aa4 t+plN rest;have:=ac6 t;omega
     case rel=>
      refine⟨pre++ [(d,⟨ga,oa,none⟩)],ai1 (d+1) b2 t.kids 0++rest,rfl,?_,?_,(HPK.out 0).append HOK.out,?_,HIN.out.row,HIN.out.inv,HIN.out.size⟩
      ·have:=HST.out.deps
       rw [plD,aT7] at this
       rw [List.map_append,aI8,bb3,←this]
       simp
      ·have:=HST.out.many
       have e1:plN ((d,⟨ga,oa,none⟩,t)::rest)=aa4 t+plN rest:=rfl
       have e2:=ac6 t
       rw [List.length_append,ao1,aw7,List.length_singleton]
       omega
      ·intro p hp
       rcases List.mem_append.1 hp with hp|hp
       ·obtain⟨x,hx,e1,e2⟩:=aD7 hp
        have:=aj5 hx
        rw [e1,e2]
        rw [ac6 t] at hdl
        omega
       ·exact HST.out.dep p (.tail _ hp)
    |succ i=>
     have e0:(((i+1:Nat):Int) - 1)=i:=by omega
     rw [e0]
     clear e0
     obtain⟨gk2,offk,rfl⟩:=HRB.out i (by omega)
     have HKD:=hJ (ay5 (d+1) (some ⟨gk2,offk,none⟩) t.kids i (by omega))
     generalize hSd:ai1 (d+1) (some ⟨gk2,offk,none⟩) (t.kids.drop (i+1)) (i+1)++rest=S at*
     have hSl:S.length≤8388608:=by rw [←hSd,List.length_append,aD6,List.length_drop];omega
     have HSD:=hJ hSd
     have HOWN:=hJ (show wr.ownsRow W.heap.size 143 2 _ S.length (al7 S) by rw [←hSd];exact hin.row)
     have hww:=hin.size
     have hxo:=hin.far
     clear hin hSd
     have hil:i<t.kids.length:=by omega
     gi_upto_region 8 with fail
     have hwd:IntKind.i64.wrap ((d:Int)+1)=(d:Int)+1:=IntWalk.i64_in _ (by omega)
     refine wpIn_wide.2 ?_
     go_region_law (refine step_append_lies _ (by rfl) _ _ _ (by rfl) W.heap.size 143 i0 _ 2 16 (by kernel_rfl) hi hz0 hz1 hz2 (by rfl) (by decide) _ S.length (al7 S) (by rfl) (HOWN.out.alloc _) ⟨wr.heap.size,0,none⟩ 1 1 [.int .i64 ((d:Int)+1),.pointer (some ⟨gk2,offk+i*5,none⟩)] (by rfl) (by rfl) (World.news_of_block (heap_alloc_new _ _)) (bG7 _ _) (by decide) (by unfold maxLen;omega) (by omega) (by simp<;>omega) (wr.heap.size+1) (by simp) ?_;intro g3 cap3 w3 hown3 hgrow4 hat3 hlt3;have hgrow3:(wr.alloc _).grownBy w3 _:=⟨hgrow4.os,hgrow4.tape,hgrow4.output,hgrow4.size,hgrow4.block⟩;clear hgrow4;have hxf:=by2 hgrow3 hxl2 hxo;have z0:=(World.cell?_of_block (a:=⟨xq,0,none⟩) hxf).trans x0;have z1:=(World.cell?_of_block (a:=⟨xq,1,none⟩) hxf).trans x1;have hxl3:xq<w3.heap.size:=(Array.getElem?_eq_some_iff.1 (hxf.trans HIN.out.box)).1;have hga3:=bb4 hgrow3 HOWN.out hgaW hww;have z2:=(World.cell?_of_block (a:=⟨ga,oa+2,none⟩) hga3).trans k2;have hgal3:ga<w3.heap.size:=(by omega))
     all_goals
      have HST3:=hJ (show WkI w W L B d xq ga oa t (some ⟨gk2,offk,none⟩) rest J (pre++ [(d,⟨ga,oa,none⟩)]) cap2 i (.slice (some ⟨g3,0,none⟩) (S.length+1) cap3) w3 from
       ⟨by rw [HKD.out,List.cons_append,HSD.out,List.length_cons,al7];exact hown3,hxf.trans HIN.out.box,HJa.out _ _ _ HIN.out.inv (aJ1 hgrow3 HOWN.out hww),by omega,z2,by
        intro e
        have e2:g3=xq:=by simpa [Value.ownBlock] using e
        subst e2
        rcases hat3 with h|h
        ·exact hxo h
        ·omega⟩)
      clear hown3 hgrow3 hat3 hxf hga3 hwd
      gi_wp2_with fail
      go_roundw
      case rel=>exact⟨i,by omega,by go_num,HST3.out⟩
      case measure=>simp [intOf]
end
section
open Go.RowKit
def ac4 (w:World) (p:Nat) (t:TypeId) (z:Int):Prop:=w.heap[p]? =some (.cells #[.int .i64 z] t (0,0))
theorem ac4.lt {w:World} {p:Nat} {t:TypeId} {z:Int} (h:ac4 w p t z):p<w.heap.size:=(Array.getElem?_eq_some_iff.1 h).1
theorem ac4.facts {w:World} {p:Nat} {t:TypeId} {z:Int} (h:ac4 w p t z):w.cell? ⟨p,0,none⟩=some (.int .i64 z)∧w.frozen? ⟨p,0,none⟩=false:=⟨cell_of_row w p 0 _ _ _ h,frozen_of_row w p 0 _ _ h⟩
theorem ac4.far {w w':World} {p:Nat} {t:TypeId} {z:Int} (h:ac4 w p t z) (hb:w'.heap[p]? =w.heap[p]?):ac4 w' p t z:=hb.trans h
theorem ac4.set {w:World} {p:Nat} {t:TypeId} {z:Int} (h:ac4 w p t z) (y:Int):ac4 (w.setCell ⟨p,0,none⟩ (.int .i64 y)) p t y:=heap_setCell_same w p 0 _ t (.int .i64 y) h
theorem aY0 {w:World} {p:Nat} {z:Int} (h:ac4 w p 3 z):(loadVar 3 ⟨p,0,none⟩).run Tryz.prog w= .ok (.int .i64 z) w:=by
 have:=h.facts.1
 simp [loadVar,go_sem,this]
theorem bb5 {w:World} {p:Nat} {z:Int} (h:ac4 w p 35 z):(loadVar 35 ⟨p,0,none⟩).run Tryz.prog w= .ok (.int .i64 z) w:=by
 have:=h.facts.1
 simp [loadVar,go_sem,this]
theorem aA4 {fn:Func} {p q r:Tmp} (h:fn.results= #[.cell p 3,.cell q 3,.cell r 35]) (tmps:Array Value) (w:World) (b c d:Nat) (x y z:Int) (hp:tmps.getD p undef= .pointer (some ⟨b,0,none⟩)) (hq:tmps.getD q undef= .pointer (some ⟨c,0,none⟩)) (hr:tmps.getD r undef= .pointer (some ⟨d,0,none⟩))
  (hx:ac4 w b 3 x) (hy:ac4 w c 3 y) (hz:ac4 w d 35 z):(results fn tmps).run Tryz.prog w= .ok (.tuple #[.int .i64 x,.int .i64 y,.int .i64 z]) w:=by
 have hp':tmps[p]?.getD undef= .pointer (some ⟨b,0,none⟩):=by simpa using hp
 have hq':tmps[q]?.getD undef= .pointer (some ⟨c,0,none⟩):=by simpa using hq
 have hr':tmps[r]?.getD undef= .pointer (some ⟨d,0,none⟩):=by simpa using hr
 simp [results,h,hp',hq',hr',asAddr,aY0 hx,aY0 hy,bb5 hz]
theorem bz2 (n:Nat) (x:Option Addr) (w:World):
  CallsIn Fence.wide n Tryz.prog 60 #[.pointer x] w fun e w'=>e= .returned (.func (.func 107) #[] #[.pointer (some ⟨w.heap.size,0,none⟩)])∧w'=w.alloc (.cells #[.pointer x] 53):=by
 refine callsIn_of_wp Tryz.func60 rfl trivial ?_ rfl
 simp only [Tryz.ntmps60,List.size_toArray,List.length_cons,List.length_nil,Nat.reduceAdd,Nat.reduceSub,Array.replicate_succ,Array.replicate_zero,List.push_toArray,List.append_toArray,List.nil_append,List.cons_append]
 gi_wp2
 go_ret
 exact⟨rfl,rfl⟩
def aA8 (l:List Nat):Nat:=l.foldl max 0
structure MsS (w:World) (p L B:Nat) (pre:List (Nat × Addr)) (W:World):Prop where
 size:ac4 W p 3 pre.length
 depth:ac4 W (p+1) 3 (aA8 (pre.map Prod.fst))
 code:ac4 W (p+2) 35 0
 bel:Below w.heap.size w W
 hp:w.heap.size≤p
def msW (W:World) (p m:Nat) (y:Int) (d:Nat):World:=(W.setCell ⟨p,0,none⟩ (.int .i64 ((m:Int)+1))).setCell ⟨p+1,0,none⟩ (.int .i64 (max y (d:Int)))
theorem aP0 {W:World} {p m:Nat} {y:Int} {d k:Nat} (h1:k≠p) (h2:k≠p+1):(msW W p m y d).heap[k]? =W.heap[k]? :=by
 unfold msW
 rw [Below.heap_setCell _ _ _ _ h2,Below.heap_setCell _ _ _ _ h1]
theorem MsS.upper {w W:World} {p L B B4:Nat} {pre:List (Nat × Addr)} (_h:MsS w p L B pre W) (hB:p+1<B4) (d:Nat):am9 B4 W (msW W p pre.length (aA8 (pre.map Prod.fst):Nat) d):=
 ((am9.refl _ W).setCell (p:=⟨p,0,none⟩) (Nat.lt_of_succ_lt hB) _).setCell (p:=⟨p+1,0,none⟩) hB _
theorem MsS.high {w W w4:World} {p L B:Nat} {pre:List (Nat × Addr)} (_h:MsS w p L B pre W) (hB:B≤p) (d:Nat) (hT: ∀k,L≤k→k<B→W.heap[k]? =w4.heap[k]?) (k:Nat) (h1:L≤k) (h2:k<B):(msW W p pre.length (aA8 (pre.map Prod.fst):Nat) d).heap[k]? =w4.heap[k]? :=
 (aP0 (by omega) (by omega)).trans (hT k h1 h2)
theorem MsS.next {w W:World} {p L B:Nat} {pre:List (Nat × Addr)} (h:MsS w p L B pre W) (x:Nat × Addr):MsS w p L B (pre++ [x]) (msW W p pre.length (aA8 (pre.map Prod.fst):Nat) x.1):=by
 have e1:(((pre++ [x]).length:Nat):Int)=(pre.length:Int)+1:=by rw [List.length_append];rfl
 have e2:((aA8 ((pre++ [x]).map Prod.fst):Nat):Int)=max ((aA8 (pre.map Prod.fst):Nat):Int) (x.1:Int):=by
  have:aA8 ((pre++ [x]).map Prod.fst)=max (aA8 (pre.map Prod.fst)) x.1:=by
   rw [List.map_append,aA8,List.foldl_append]
   rfl
  rw [this]
  omega
 have b0:=h.size.set ((pre.length:Int)+1)
 have b1:ac4 (W.setCell ⟨p,0,none⟩ (.int .i64 ((pre.length:Int)+1))) (p+1) 3 (aA8 (pre.map Prod.fst)):=h.depth.far (Below.heap_setCell _ ⟨p,0,none⟩ _ (p+1) (by show p+1≠p;omega))
 refine⟨?_,?_,h.code.far (aP0 (by omega) (by omega)),?_,h.hp⟩
 ·rw [e1]
  exact b0.far (Below.heap_setCell _ ⟨p+1,0,none⟩ _ p (by show p≠p+1;omega))
 ·rw [e2]
  exact b1.set _
 ·have hp:=h.hp
  exact(h.bel.setCell (p:=⟨p,0,none⟩) hp _).setCell (p:=⟨p+1,0,none⟩) (Nat.le_succ_of_le hp) _
def msF (W:World) (p:Nat) (x y z:Int):World:=((W.setCell ⟨p,0,none⟩ (.int .i64 x)).setCell ⟨p+1,0,none⟩ (.int .i64 y)).setCell ⟨p+1+1,0,none⟩ (.int .i64 z)
theorem aO9 {W:World} {p:Nat} {x y z:Int} {k:Nat} (h1:k≠p) (h2:k≠p+1) (h3:k≠p+1+1):(msF W p x y z).heap[k]? =W.heap[k]? :=by
 unfold msF
 rw [Below.heap_setCell _ _ _ _ h3,Below.heap_setCell _ _ _ _ h2,Below.heap_setCell _ _ _ _ h1]
theorem MsS.done {w W:World} {p L B D:Nat} {pre:List (Nat × Addr)} (h:MsS w p L B pre W) (hD:p+4≤D) (o:Obj) (x y z:Int):
  ac4 ((msF W p x y z).putObj D o) p 3 x∧ac4 ((msF W p x y z).putObj D o) (p+1) 3 y∧ac4 ((msF W p x y z).putObj D o) (p+1+1) 35 z∧Below w.heap.size w ((msF W p x y z).putObj D o):=by
 have hp:=h.hp
 have b0:=h.size.set x
 have c0:=h.depth.far (w':=W.setCell ⟨p,0,none⟩ (.int .i64 x)) (Below.heap_setCell _ ⟨p,0,none⟩ _ (p+1) (by show p+1≠p;omega))
 have d0:=h.code.far (w':=W.setCell ⟨p,0,none⟩ (.int .i64 x)) (Below.heap_setCell _ ⟨p,0,none⟩ _ (p+2) (by show p+2≠p;omega))
 have b1:=b0.far (w':=(W.setCell ⟨p,0,none⟩ (.int .i64 x)).setCell ⟨p+1,0,none⟩ (.int .i64 y)) (Below.heap_setCell _ ⟨p+1,0,none⟩ _ p (by show p≠p+1;omega))
 have c1:=c0.set y
 have d1:=d0.far (w':=(W.setCell ⟨p,0,none⟩ (.int .i64 x)).setCell ⟨p+1,0,none⟩ (.int .i64 y)) (Below.heap_setCell _ ⟨p+1,0,none⟩ _ (p+2) (by show p+2≠p+1;omega))
 have b2:=b1.far (w':=msF W p x y z) (Below.heap_setCell _ ⟨p+1+1,0,none⟩ _ p (by show p≠p+1+1;omega))
 have c2:=c1.far (w':=msF W p x y z) (Below.heap_setCell _ ⟨p+1+1,0,none⟩ _ (p+1) (by show p+1≠p+1+1;omega))
 have d2:ac4 (msF W p x y z) (p+1+1) 35 z:=ac4.set (p:=p+1+1) d1 z
 refine⟨b2.far (World.putObj_heap_other (by omega)),c2.far (World.putObj_heap_other (by omega)),d2.far (World.putObj_heap_other (by omega)),?_⟩
 have hb:Below w.heap.size w (msF W p x y z):=((h.bel.setCell (p:=⟨p,0,none⟩) hp _).setCell (p:=⟨p+1,0,none⟩) (Nat.le_succ_of_le hp) _).setCell (p:=⟨p+1+1,0,none⟩) (Nat.le_succ_of_le (Nat.le_succ_of_le hp)) _
 exact hb.trans (au9 _ _ _ _ (by omega))
def msV (n:Nd):Value:=if af3 n≤8000 then .tuple #[.int .i64 (aa4 n),.int .i64 (af3 n),.int .i64 0] else .tuple #[.int .i64 0,.int .i64 0,.int .i64 801]
attribute [local go_sem] Oper.semAt_some
theorem aT2 (n:Nd) (g o L B:Nat) (w:World) (hn:NdC w L B n g o) (hB:B≤w.heap.size) (hsz:aa4 n≤4194304):
  Calls Tryz.prog 33 #[.pointer (some ⟨g,o,none⟩)] w fun e w'=>e= .returned (msV n)∧Below w.heap.size w w':=by
 refine(callsIn_wide (n:=4)).1 ?_
 refine callsIn_of_wp_marks Tryz.func33 rfl trivial ?_ rfl
 simp only [Tryz.ntmps33,List.size_toArray,List.length_cons,List.length_nil,Nat.reduceAdd,Nat.reduceSub,Array.replicate_succ,Array.replicate_zero,List.push_toArray,List.append_toArray,List.nil_append,List.cons_append]
 have HN:=hJ hn
 clear hn
 gi_wp2_with (refine⟨trivial,?_⟩;gi_at_call 60;refine(bz2 _ _ _).mono ?_;rintro e w' ⟨rfl,rfl⟩)
 have hB0:Below w.heap.size w ((((w.alloc (.cells #[.int .i64 0] 3)).alloc (.cells #[.int .i64 0] 3)).alloc (.cells #[.int .i64 0] 35)).alloc (.cells #[.pointer (some ⟨g,o,none⟩)] 53)):=(((Below.alloc (Below.refl _ w) (Nat.le_refl _) _).alloc (by simp) _).alloc (by simp<;>omega) _).alloc (by simp<;>omega) _
 have hsz4:((((w.alloc (.cells #[.int .i64 0] 3)).alloc (.cells #[.int .i64 0] 3)).alloc (.cells #[.int .i64 0] 35)).alloc (.cells #[.pointer (some ⟨g,o,none⟩)] 53)).heap.size=w.heap.size+4:=by simp
 have b3:=heap_alloc_new (((w.alloc (.cells #[.int .i64 0] 3)).alloc (.cells #[.int .i64 0] 3)).alloc (.cells #[.int .i64 0] 35)) (.cells #[.pointer (some ⟨g,o,none⟩)] 53)
 have b2:((((w.alloc (.cells #[.int .i64 0] 3)).alloc (.cells #[.int .i64 0] 3)).alloc (.cells #[.int .i64 0] 35)).alloc (.cells #[.pointer (some ⟨g,o,none⟩)] 53)).heap[w.heap.size+2]? =some (.cells #[.int .i64 0] 35 (0,0)):=by
  rw [Below.heap_alloc _ _ _ (by simp)]
  have:=heap_alloc_new ((w.alloc (.cells #[.int .i64 0] 3)).alloc (.cells #[.int .i64 0] 3)) (.cells #[.int .i64 0] 35)
  rw [World.size_alloc,World.size_alloc] at this
  exact this
 have b1:((((w.alloc (.cells #[.int .i64 0] 3)).alloc (.cells #[.int .i64 0] 3)).alloc (.cells #[.int .i64 0] 35)).alloc (.cells #[.pointer (some ⟨g,o,none⟩)] 53)).heap[w.heap.size+1]? =some (.cells #[.int .i64 0] 3 (0,0)):=by
  rw [Below.heap_alloc _ _ _ (by simp),Below.heap_alloc _ _ _ (by simp)]
  have:=heap_alloc_new (w.alloc (.cells #[.int .i64 0] 3)) (.cells #[.int .i64 0] 3)
  rw [World.size_alloc] at this
  exact this
 have b0:((((w.alloc (.cells #[.int .i64 0] 3)).alloc (.cells #[.int .i64 0] 3)).alloc (.cells #[.int .i64 0] 35)).alloc (.cells #[.pointer (some ⟨g,o,none⟩)] 53)).heap[w.heap.size]? =some (.cells #[.int .i64 0] 3 (0,0)):=by
  rw [Below.heap_alloc _ _ _ (by simp<;>omega),Below.heap_alloc _ _ _ (by simp<;>omega),Below.heap_alloc _ _ _ (by simp)]
  exact heap_alloc_new _ _
 rw [show (((w.alloc (.cells #[.int .i64 0] 3)).alloc (.cells #[.int .i64 0] 3)).alloc (.cells #[.int .i64 0] 35)).heap.size=w.heap.size+3 by simp] at b3
 have hMS:MsS w w.heap.size L B [] ((((w.alloc (.cells #[.int .i64 0] 3)).alloc (.cells #[.int .i64 0] 3)).alloc (.cells #[.int .i64 0] 35)).alloc (.cells #[.pointer (some ⟨g,o,none⟩)] 53)):=⟨b0,b1,b2,hB0,Nat.le_refl _⟩
 have hN4:=aC0 HN.out (hB0.mono hB)
 clear b0 b1 b2
 generalize ((((w.alloc (.cells #[.int .i64 0] 3)).alloc (.cells #[.int .i64 0] 3)).alloc (.cells #[.int .i64 0] 35)).alloc (.cells #[.pointer (some ⟨g,o,none⟩)] 53))=w4 at*
 have hsq:=bz3 n 3 (by omega) g o L B (w.heap.size+3) w4 b3 hN4 (by omega) hsz
 clear b3
 have HB:=hJ hB0
 have HSQ:=hJ hsq
 have HMS:=hJ hMS
 have HN4:=hJ hN4
 clear hB0 hsq hMS hN4
 refine au5 rfl (by omega) (gf:=107) (lb:= #[.pointer (some ⟨w.heap.size+3,0,none⟩)]) rfl trivial (enters_of Tryz.func107 (by kernel_rfl) rfl) HSQ.out (fun _=>rfl)
  (fun pre A=>MsS w w.heap.size L B pre A∧∀k,L≤k→k<B→A.heap[k]? =w4.heap[k]?)
  (fun s A C h hb=>⟨⟨h.1.size.far (hb.block _ (by omega)),h.1.depth.far (hb.block _ (by omega)),h.1.code.far (hb.block _ (by omega)),h.1.bel.trans (hb.mono (by omega)),h.1.hp⟩,fun k h1 h2=>(hb.block k (by omega)).trans (h.2 k h1 h2)⟩)
  (fun s A h=>h.2) ⟨HMS.out,fun _ _ _=>rfl⟩
  (fun x=> { tmps:= #[.pointer (some ⟨g,o,none⟩),undef,.pointer (some ⟨w.heap.size,0,none⟩),.pointer (some ⟨w.heap.size+1,0,none⟩),.pointer (some ⟨w.heap.size+1+1,0,none⟩),.int .i64 x.1,.pointer (some ⟨g,o,none⟩),.func (.func 107) #[] #[.pointer (some ⟨w.heap.size+1+1+1,0,none⟩)],.int .i64 x.1,.pointer (some x.2),undef,undef,undef,undef,undef,undef,undef,undef,undef,undef,undef],defers:= [] }) ?assign ?body ?done
 case assign=>
  intro l x W K hK
  gi_wp2
  exact hK
 case body=>
  rintro l pre x W ⟨hms,hT⟩ hlt hsW
  obtain⟨d,a⟩:=x
  obtain⟨s1,s2⟩:=hms.size.facts
  obtain⟨d1,d2⟩:=hms.depth.facts
  have hp1:w.heap.size<W.heap.size:=hms.size.lt
  have hp2:w.heap.size+1<W.heap.size:=hms.depth.lt
  have HPL:=hJ (show pre.length<4194304 by omega)
  have HSZ:=hJ hsz
  clear hsz hlt
  have HMS2:=hJ hms
  have HT:=hJ hT
  clear hms hT
  have hwr:wrap64 ((pre.length:Int)+1)=(pre.length:Int)+1:=IntWalk.wrap64_in _ (by have:=HPL.out;omega)
  have htt:decide ((4194304:Int)<(pre.length:Int)+1)=false:=by have:=HPL.out;rw [decide_eq_false_iff_not];omega
  gi_wp2_with fail
  exact⟨HMS2.out.upper (by omega) d,HMS2.out.next (d,a),HMS2.out.high (by omega) d HT.out⟩
 case done=>
  rintro D W xs hD hfin ⟨hms,hT⟩ hK
  obtain⟨s1,s2⟩:=hms.size.facts
  obtain⟨d1,d2⟩:=hms.depth.facts
  obtain⟨e1,e2⟩:=hms.code.facts
  have hp1:w.heap.size<W.heap.size:=hms.size.lt
  have hp2:w.heap.size+1<W.heap.size:=hms.depth.lt
  have hp3:w.heap.size+1+1<W.heap.size:=hms.code.lt
  have hDl:D<W.heap.size:=(Array.getElem?_eq_some_iff.1 hK).1
  have hlen:xs.length=aa4 n:=by rw [←bx7 n 1,←hfin,List.length_map]
  have hmost:aA8 (xs.map Prod.fst)=af3 n:=by rw [hfin,aA8,bx8];omega
  rw [hlen] at s1
  rw [hmost] at d1
  have HMS2:=hJ hms
  have HK:=hJ hK
  have HSZ:=hJ hsz
  clear hms hT hfin hlen hmost hK hsz
  by_cases hd:af3 n≤8000
  ·have ht:decide ((8000:Int)<((af3 n:Nat):Int))=false:=by rw [decide_eq_false_iff_not];omega
   have HV:=hJ (show msV n= .tuple #[.int .i64 (aa4 n),.int .i64 (af3 n),.int .i64 0] by rw [msV,if_pos hd])
   clear hd
   gi_upto_region 9 with fail
   gi_region
   gi_wp2_with fail
   have hms3:MsS w w.heap.size L B xs W.drew:=⟨HMS2.out.size,HMS2.out.depth,HMS2.out.code,Below.drew HMS2.out.bel,HMS2.out.hp⟩
   have hK3:(msF W.drew w.heap.size (aa4 n) (af3 n) 0).heap[D]? =some (.deferred (some [])):=(aO9 (by omega) (by omega) (by omega)).trans HK.out
   change bodyPostM _ _ _ _ _ _ _ (msF W.drew w.heap.size (aa4 n) (af3 n) 0)
   refine⟨by simp,.inl ⟨_,_,rfl,run_takeDeferred hK3,?_⟩⟩
   obtain⟨q0,q1,q2,q3⟩:=hms3.done (D:=D) (by omega) (.deferred none) (aa4 n) (af3 n) 0
   refine⟨_,aA4 rfl _ _ w.heap.size (w.heap.size+1) (w.heap.size+1+1) _ _ _ rfl rfl rfl q0 q1 q2,?_,q3⟩
   rw [HV.out]
  ·have ht:decide ((8000:Int)<((af3 n:Nat):Int))=true:=by rw [decide_eq_true_eq];omega
   have HV:=hJ (show msV n= .tuple #[.int .i64 0,.int .i64 0,.int .i64 801] by rw [msV,if_neg hd])
   clear hd
   gi_wp2_with fail
   have hK3:(msF W w.heap.size 0 0 801).heap[D]? =some (.deferred (some [])):=(aO9 (by omega) (by omega) (by omega)).trans HK.out
   refine⟨by simp,.inl ⟨_,_,rfl,run_takeDeferred hK3,?_⟩⟩
   obtain⟨q0,q1,q2,q3⟩:=HMS2.out.done (D:=D) (by omega) (.deferred none) 0 0 801
   refine⟨_,aA4 rfl _ _ w.heap.size (w.heap.size+1) (w.heap.size+1+1) _ _ _ rfl rfl rfl q0 q1 q2,?_,q3⟩
   rw [HV.out]
end
section
open Go.RowKit
theorem aq5 (w:World) (n:Nd) (b:Option Addr) (cap:Nat):ab0 (w.alloc (.cells #[.int .i64 n.kind,.string n.text,.slice b n.kids.length cap,.int .i64 n.from',.int .i64 n.till] 27)) w.heap.size n.kind n.text b n.kids.length cap n.from' n.till:=heap_alloc_new _ _
theorem ac0 (w:World) (o:Obj):Below w.heap.size w (w.alloc o):=Below.alloc (Below.refl _ w) (Nat.le_refl _) _
def aq0 (n:Nd):Nd:=if af3 n≤8000 then ae8 n else .zero
end
section
open Go.RowKit
theorem bA4:(Tryz.prog.info? 27).map (fun i=>(i.zero,i.size,i.bytes))=some (some (.agg #[.int .i64 0,.string ⟨#[]⟩,.slice none 0 0,.int .i64 0,.int .i64 0]),5,64):=by kernel_rfl
def aa6 (w:World) (p:Nat) (k:Int) (t:ByteArray) (v:Value) (f u:Int):Prop:=w.heap[p]? =some (.cells #[.int .i64 k,.string t,v,.int .i64 f,.int .i64 u] 27 (0,0))
theorem aa6.lt {w:World} {p:Nat} {k:Int} {t:ByteArray} {v:Value} {f u:Int} (h:aa6 w p k t v f u):p<w.heap.size:=(Array.getElem?_eq_some_iff.1 h).1
theorem aa6.bel {w w':World} {p:Nat} {k:Int} {t:ByteArray} {v:Value} {f u:Int} (h:aa6 w p k t v f u) (hb:Below w.heap.size w w'):aa6 w' p k t v f u:=(hb.block p h.lt).trans h
theorem aa6.facts {w:World} {p:Nat} {k:Int} {t:ByteArray} {v:Value} {f u:Int} (h:aa6 w p k t v f u):
  w.cell? ⟨p,0,none⟩=some (.int .i64 k)∧w.cell? ⟨p,1,none⟩=some (.string t)∧w.cell? ⟨p,2,none⟩=some v∧w.cell? ⟨p,3,none⟩=some (.int .i64 f)∧w.cell? ⟨p,4,none⟩=some (.int .i64 u)∧
  w.frozen? ⟨p,0,none⟩=false∧w.frozen? ⟨p,1,none⟩=false∧w.frozen? ⟨p,2,none⟩=false∧w.frozen? ⟨p,3,none⟩=false∧w.frozen? ⟨p,4,none⟩=false:=by
 have hc:=fun o=>cell_of_row w p o _ _ (0,0) h
 have hf:=fun o=>frozen_of_row w p o _ _ h
 exact⟨hc 0,hc 1,hc 2,hc 3,hc 4,hf 0,hf 1,hf 2,hf 3,hf 4⟩
structure CpS (w0:World) (p q r L B:Nat) (n:Nd) (b:Option Addr) (cap:Nat) (vk:Value) (k:Nat) (wr:World):Prop where
 st:NSt w0 p L B n b cap wr
 res:aa6 wr q 0 ⟨#[]⟩ (.slice none 0 0) 0 0
 out:aa6 wr r n.kind n.text vk n.from' n.till
 kr:KRow RowE wr (r+1) vk (n.kids.take k)
 pq:p<q
 qr:q<r
 hr:r<wr.heap.size
theorem five_one {a:Int} {t:ByteArray} {b:Option Addr} {m c:Nat} {f u:Int} : ∀y ∈ ([.int .i64 a,.string t,.slice b m c,.int .i64 f,.int .i64 u]:List Value),y.oneCell'=true:=by
 intro y hy
 simp only [List.mem_cons,List.not_mem_nil,or_false] at hy
 rcases hy with rfl|rfl|rfl|rfl|rfl<;>rfl
theorem push_far {w2 w3:World} {o:Obj} {v:Value} {r n:Nat} {ys:List Value} (hg:(w2.alloc o).grownBy w3 v.ownBlock) (ho:w2.ownsRow (r+1) 27 5 v n ys) (hr:r<w2.heap.size):w3.heap[r]? =w2.heap[r]? :=by
 refine(hg.block r (by rw [World.size_alloc];omega) (fun e=> ?_)).trans (Below.heap_alloc _ _ _ hr)
 have:=(ho.lt r e.symm).1
 omega
theorem NSt.low {w0 wr w':World} {p L B r:Nat} {n:Nd} {b:Option Addr} {cap:Nat} (h:NSt w0 p L B n b cap wr) (hb:Below r wr w') (hp:p<r):NSt w0 p L B n b cap w':=by
 have h1:=h.hp
 have h2:=h.hB
 exact⟨h.box.bel hb hp,ad5 h.row (hb.mono (by omega)),h.bel.trans (hb.mono (by omega)),h.hp,h.hB⟩
theorem CpS.step {w0 wr w2 w3:World} {p q r L B:Nat} {n x:Nd} {b bu:Option Addr} {cap cu:Nat} {vk:Value} {k g cap1:Nat} {o:Obj} (h:CpS w0 p q r L B n b cap vk k wr) (hk:k<n.kids.length) (hx:n.kids[k]=x)
  (hb2:Below wr.heap.size wr w2) (hru:RowE w2 wr.heap.size w2.heap.size x bu cu) (hkr2:KRow RowE w2 (r+1) vk (n.kids.take k)) (hlen:(n.kids.take k).length=k)
  (ho:w3.ownsRow (r+1) 27 5 (.slice (some ⟨g,0,none⟩) (k+1) cap1) (k+1) (hkr2.cells++(aa7 x.kind x.text bu x.kids.length cu x.from' x.till).toList))
  (hg:(w2.alloc o).grownBy w3 vk.ownBlock) (hat:vk.ownBlock=some g∨g=w2.heap.size+1) (hr:r<w2.heap.size):
  CpS w0 p q r L B n b cap (.slice (some ⟨g,0,none⟩) (k+1) cap1) (k+1) (w3.setCell ⟨r,2,none⟩ (.slice (some ⟨g,0,none⟩) (k+1) cap1)):=by
 have hown:=hkr2.own hlen
 have hpq:=h.pq
 have hqr:=h.qr
 have hwr:=h.hr
 have hst:=h.st.hp
 have hlow:Below r wr (w3.setCell ⟨r,2,none⟩ (.slice (some ⟨g,0,none⟩) (k+1) cap1)):=by
  have h3:Below r w2 w3:=by
   refine((Below.refl r w2).alloc (by omega) o).grown hg (by rw [World.size_alloc];omega) (fun i e=> ?_)
   have:=(hown.lt i e).1
   omega
  exact((hb2.mono (by omega)).trans h3).setCell (p:=⟨r,2,none⟩) (Nat.le_refl _) _
 have hz3:=hg.size
 rw [World.size_alloc] at hz3
 have hkr:KRow RowE w3 (r+1) (.slice (some ⟨g,0,none⟩) (k+1) cap1) (n.kids.take k++ [x]):=
  KRow.push RowE.keeps hkr2 hlen (by omega) (fun i e=>((h.kr.own hlen).lt i e).2) (Nat.le_refl _) hru ho hg hat
 refine⟨h.st.low hlow (by omega),(hlow.block q (by omega)).trans h.res,?_,?_,hpq,hqr,?_⟩
 ·have h1:w3.heap[r]? =some (.cells #[.int .i64 n.kind,.string n.text,vk,.int .i64 n.from',.int .i64 n.till] 27 (0,0)):=(push_far hg hown hr).trans (h.out.bel hb2)
  exact heap_setCell_same w3 r 2 _ 27 (.slice (some ⟨g,0,none⟩) (k+1) cap1) h1
 ·rw [List.take_succ_eq_append_getElem hk,hx]
  exact hkr.high RowE.keeps (by simp [World.setCell]) (fun i h1 _=>Below.heap_setCell _ _ _ _ (by show i≠r;omega))
 ·simp only [World.setCell,Array.size_modify]
  omega
def lay5 (w:World) (q:Nat) (k:Int) (t:ByteArray) (v:Value) (f u:Int):World:=((((w.setCell ⟨q,0,none⟩ (.int .i64 k)).setCell ⟨q,1,none⟩ (.string t)).setCell ⟨q,2,none⟩ v).setCell ⟨q,3,none⟩ (.int .i64 f)).setCell ⟨q,4,none⟩ (.int .i64 u)
theorem aa6.lay {w:World} {q:Nat} {k0 k:Int} {t0 t:ByteArray} {v0 v:Value} {f0 f u0 u:Int} (h:aa6 w q k0 t0 v0 f0 u0):aa6 (lay5 w q k t v f u) q k t v f u:=by
 have h1:=heap_setCell_same w q 0 _ 27 (.int .i64 k) h
 have h2:=heap_setCell_same _ q 1 _ 27 (.string t) h1
 have h3:=heap_setCell_same _ q 2 _ 27 v h2
 have h4:=heap_setCell_same _ q 3 _ 27 (.int .i64 f) h3
 exact heap_setCell_same _ q 4 _ 27 (.int .i64 u) h4
theorem ad6 (w:World) (q:Nat) (k:Int) (t:ByteArray) (v:Value) (f u:Int) (i:Nat) (h:i≠q):(lay5 w q k t v f u).heap[i]? =w.heap[i]? :=by
 unfold lay5
 rw [Below.heap_setCell _ _ _ _ h,Below.heap_setCell _ _ _ _ h,Below.heap_setCell _ _ _ _ h,Below.heap_setCell _ _ _ _ h,Below.heap_setCell _ _ _ _ h]
theorem al2 (w:World) (q:Nat) (k:Int) (t:ByteArray) (v:Value) (f u:Int):(lay5 w q k t v f u).heap.size=w.heap.size:=by simp [lay5,World.setCell]
theorem lay5_bel {B:Nat} {a w:World} (h:Below B a w) {q:Nat} (hq:B≤q) (k:Int) (t:ByteArray) (v:Value) (f u:Int):Below B a (lay5 w q k t v f u):=
 ((((h.setCell (p:=⟨q,0,none⟩) hq _).setCell (p:=⟨q,1,none⟩) hq _).setCell (p:=⟨q,2,none⟩) hq _).setCell (p:=⟨q,3,none⟩) hq _).setCell (p:=⟨q,4,none⟩) hq _
theorem results_nd {fn:Func} {p:Tmp} (h:fn.results= #[.cell p 27]) (tmps:Array Value) (w:World) (g:Nat) {k:Int} {t:ByteArray} {v:Value} {f u:Int} (hp:tmps.getD p undef= .pointer (some ⟨g,0,none⟩)) (hx:aa6 w g k t v f u):
  (results fn tmps).run Tryz.prog w= .ok (.agg #[.int .i64 k,.string t,v,.int .i64 f,.int .i64 u]) w:=
 results_cell_row h tmps w g 27 _ (0,0) _ hp hx Tryz.underlying27 rfl (by kernel_rfl)
theorem CpS.done {w0 wr:World} {p q r L B:Nat} {n:Nd} {b:Option Addr} {cap:Nat} {vk:Value} (h:CpS w0 p q r L B n b cap vk n.kids.length wr):
  ∃b' cap',vk= .slice b' n.kids.length cap'∧NdW (lay5 wr q n.kind n.text (.slice b' n.kids.length cap') n.from' n.till) w0.heap.size (lay5 wr q n.kind n.text (.slice b' n.kids.length cap') n.from' n.till).heap.size n (.agg #[.int .i64 n.kind,.string n.text,.slice b' n.kids.length cap',.int .i64 n.from',.int .i64 n.till])∧
   Below w0.heap.size w0 (lay5 wr q n.kind n.text (.slice b' n.kids.length cap') n.from' n.till)∧aa6 (lay5 wr q n.kind n.text (.slice b' n.kids.length cap') n.from' n.till) q n.kind n.text (.slice b' n.kids.length cap') n.from' n.till:=by
 have h1:=h.pq
 have h2:=h.qr
 have h3:=h.st.hp
 have hk:=h.kr
 rw [List.take_length] at hk
 obtain⟨b',cap',hv,hc,hr,hr2⟩:=hk.row
 refine⟨b',cap',hv,⟨b',cap',rfl,?_⟩,lay5_bel h.st.bel (by omega) _ _ _ _ _,h.res.lay⟩
 rw [al2]
 exact RowE.keeps.k (by omega) (Nat.le_refl _) (fun i h4 _=>ad6 _ _ _ _ _ _ _ _ (by omega)) ⟨hc,hr,hr2⟩
end
section
open Go.RowKit
theorem Nd.indS {P:Nd→Prop} (h: ∀n,(∀x,aa4 x<aa4 n→P x)→P n) (n:Nd):P n:=by
 have key: ∀m n,aa4 n≤m→P n:=by
  intro m
  induction m with
  |zero=>intro n hn;rw [ac6] at hn;omega
  |succ m ih=>intro n hn;exact h n fun x hx=>ih x (by omega)
 exact key _ n (Nat.le_refl _)
structure OuS (w0:World) (q r:Nat) (ok:Int) (ot:ByteArray) (f u:Int) (vk:Value) (xs:List Nd) (wr:World):Prop where
 res:aa6 wr q 0 ⟨#[]⟩ (.slice none 0 0) 0 0
 out:aa6 wr r ok ot vk f u
 kr:KRow RowE wr (r+1) vk xs
 bel:Below w0.heap.size w0 wr
 hq:w0.heap.size≤q
 qr:q<r
theorem OuS.bel' {w0 wr w':World} {q r:Nat} {ok:Int} {ot:ByteArray} {f u:Int} {vk:Value} {xs:List Nd} (h:OuS w0 q r ok ot f u vk xs wr) (hb:Below wr.heap.size wr w'):OuS w0 q r ok ot f u vk xs w':=
 ⟨h.res.bel hb,h.out.bel hb,h.kr.bel RowE.keeps hb,aa0 h.bel hb,h.hq,h.qr⟩
theorem OuS.step {w0 wr w2 w3:World} {q r m:Nat} {ok:Int} {ot:ByteArray} {f u:Int} {vk:Value} {xs:List Nd} {x:Nd} {bu:Option Addr} {cu g cap1:Nat} {o:Obj} (h:OuS w0 q r ok ot f u vk xs wr)
  (hb2:Below wr.heap.size wr w2) (hru:RowE w2 wr.heap.size w2.heap.size x bu cu) (hkr2:KRow RowE w2 (r+1) vk xs) (hlen:xs.length=m)
  (ho:w3.ownsRow (r+1) 27 5 (.slice (some ⟨g,0,none⟩) (m+1) cap1) (m+1) (hkr2.cells++(aa7 x.kind x.text bu x.kids.length cu x.from' x.till).toList))
  (hg:(w2.alloc o).grownBy w3 vk.ownBlock) (hat:vk.ownBlock=some g∨g=w2.heap.size+1):
  OuS w0 q r ok ot f u (.slice (some ⟨g,0,none⟩) (m+1) cap1) (xs++ [x]) (w3.setCell ⟨r,2,none⟩ (.slice (some ⟨g,0,none⟩) (m+1) cap1))∧Below r wr (w3.setCell ⟨r,2,none⟩ (.slice (some ⟨g,0,none⟩) (m+1) cap1)):=by
 have hown:=hkr2.own hlen
 have hqr:=h.qr
 have hwq:=h.hq
 have hrl:=h.out.lt
 have hs2:=hb2.size
 have hlow:Below r wr (w3.setCell ⟨r,2,none⟩ (.slice (some ⟨g,0,none⟩) (m+1) cap1)):=by
  have h3:Below r w2 w3:=by
   refine((Below.refl r w2).alloc (by omega) o).grown hg (by rw [World.size_alloc];omega) (fun i e=> ?_)
   have:=(hown.lt i e).1
   omega
  exact((hb2.mono (by omega)).trans h3).setCell (p:=⟨r,2,none⟩) (Nat.le_refl _) _
 have hkr:KRow RowE w3 (r+1) (.slice (some ⟨g,0,none⟩) (m+1) cap1) (xs++ [x]):=
  KRow.push RowE.keeps hkr2 hlen (by omega) (fun i e=>((h.kr.own hlen).lt i e).2) (Nat.le_refl _) hru ho hg hat
 refine⟨⟨(hlow.block q (by omega)).trans h.res,?_,hkr.high RowE.keeps (by simp [World.setCell]) (fun i h1 _=>Below.heap_setCell _ _ _ _ (by show i≠r;omega)),h.bel.trans (hlow.mono (by omega)),hwq,hqr⟩,hlow⟩
 have h1:w3.heap[r]? =some (.cells #[.int .i64 ok,.string ot,vk,.int .i64 f,.int .i64 u] 27 (0,0)):=(push_far hg hown (by omega)).trans (h.out.bel hb2)
 exact heap_setCell_same w3 r 2 _ 27 (.slice (some ⟨g,0,none⟩) (m+1) cap1) h1
theorem OuS.done {w0 wr:World} {q r:Nat} {n:Nd} {vk:Value} (h:OuS w0 q r n.kind n.text n.from' n.till vk n.kids wr):
  ∃b' cap',vk= .slice b' n.kids.length cap'∧NdW (lay5 wr q n.kind n.text (.slice b' n.kids.length cap') n.from' n.till) w0.heap.size (lay5 wr q n.kind n.text (.slice b' n.kids.length cap') n.from' n.till).heap.size n (.agg #[.int .i64 n.kind,.string n.text,.slice b' n.kids.length cap',.int .i64 n.from',.int .i64 n.till])∧
   Below w0.heap.size w0 (lay5 wr q n.kind n.text (.slice b' n.kids.length cap') n.from' n.till)∧aa6 (lay5 wr q n.kind n.text (.slice b' n.kids.length cap') n.from' n.till) q n.kind n.text (.slice b' n.kids.length cap') n.from' n.till:=by
 have h1:=h.hq
 have h2:=h.qr
 obtain⟨b',cap',hv,hc,hr,hr2⟩:=h.kr.row
 refine⟨b',cap',hv,⟨b',cap',rfl,?_⟩,lay5_bel h.bel (by omega) _ _ _ _ _,h.res.lay⟩
 rw [al2]
 exact RowE.keeps.k (by omega) (Nat.le_refl _) (fun i h4 _=>ad6 _ _ _ _ _ _ _ _ (by omega)) ⟨hc,hr,hr2⟩
theorem NdW.zero (w:World) (L B:Nat):NdW w L B .zero (.agg #[.int .i64 0,.string ⟨#[]⟩,.slice none 0 0,.int .i64 0,.int .i64 0]):=
 ⟨none,0,rfl,Nat.le_refl _,by show RowP _ _ _ [] _ _;rw [RowP];trivial,by show ShR _ _ _ [] _ _;rw [ShR];trivial⟩
theorem aR8 {ks:List Nd} (h:0<ks.length):aC3 ks=ae8 ks[0]:=by
 cases ks with
 |nil=>simp at h
 |cons k ks=>rw [aC3];rfl
theorem NSt.to {w0 wr:World} {p L B:Nat} {m x:Nd} {b b2:Option Addr} {cap cap2:Nat} (h:NSt w0 p L B m b cap wr) (hv:NdV wr L B x (.agg #[.int .i64 x.kind,.string x.text,.slice b2 x.kids.length cap2,.int .i64 x.from',.int .i64 x.till])):
  NSt w0 p L B x b2 cap2 (lay5 wr p x.kind x.text (.slice b2 x.kids.length cap2) x.from' x.till):=by
 obtain⟨b3,cap3,e,hc,hr⟩:=hv
 have hb:b3=b2∧cap3=cap2:=by
  unfold aa7 at e
  simp only [Value.agg.injEq,Array.mk.injEq,List.cons.injEq,Value.slice.injEq,true_and,and_true] at e
  exact⟨e.1.symm,e.2.symm⟩
 obtain⟨rfl,rfl⟩:=hb
 have h1:=h.hp
 have h2:=h.hB
 exact⟨aa6.lay h.box,ad5 hr (lay5_bel (Below.refl _ _) (by omega) _ _ _ _ _),lay5_bel h.bel h1 _ _ _ _ _,h1,h2⟩
end
section
open Go.RowKit
def UnB (w0:World) (q L B:Nat) (n:Nd) (s:Nat) (v:Value) (wr:World):Prop:= ∃(m:Nd) (g o:Nat),aa4 m=s∧v= .pointer (some ⟨g,o,none⟩)∧ae8 m=ae8 n∧aa4 m≤aa4 n∧NdC wr L B m g o∧aa6 wr q 0 ⟨#[]⟩ (.slice none 0 0) 0 0∧Below w0.heap.size w0 wr
theorem kidC {w:World} {L B:Nat} {a:Option Addr} {ks:List Nd} (h:RowP w L B ks a 0) (j:Nat) (hj:j<ks.length): ∃g off,a=some ⟨g,off,none⟩∧g<B∧NdC w L B ks[j] g (off+j*5):=by
 obtain⟨g,off,ha,hn⟩:=af0 h j hj
 rw [Nat.zero_add] at hn
 have h2:=hn
 rw [ai9] at h2
 obtain⟨_,_,_,h3,_⟩:=h2
 exact⟨g,off,ha,h3,hn⟩
end
section
open Go.RowKit
theorem ab0.ndc {w:World} {p L B:Nat} {n:Nd} {b:Option Addr} {cap:Nat} (h:ab0 w p n.kind n.text b n.kids.length cap n.from' n.till) (hc:n.kids.length≤cap) (hr:RowP w L B n.kids b 0) (hB:B≤w.heap.size):NdC w 0 w.heap.size n p 0:=by
 obtain⟨d0,d1,d2,d3,d4,_⟩:=ab0.facts h
 rw [ai9]
 exact⟨b,cap,Nat.zero_le _,h.lt,d0,d1,d2,d3,d4,hc,ag9 (Nat.zero_le _) hB (fun _ _ _=>rfl) hr⟩
def msS (n:Nd):Int:=if af3 n≤8000 then ((aa4 n:Nat):Int) else 0
def msD (n:Nd):Int:=if af3 n≤8000 then ((af3 n:Nat):Int) else 0
def msE (n:Nd):Int:=if af3 n≤8000 then 0 else 801
theorem bJ2 (n:Nd):msV n= .tuple #[.int .i64 (msS n),.int .i64 (msD n),.int .i64 (msE n)]:=by
 unfold msV msS msD msE
 split<;>rfl
theorem aE1 (n:Nd) (w w1:World) (L B p:Nat) (b:Option Addr) (cap:Nat) (hb:Below w.heap.size w w1) (hB:B≤w.heap.size) (hx:ab0 w1 p n.kind n.text b n.kids.length cap n.from' n.till) (hc:n.kids.length≤cap) (hr:RowP w L B n.kids b 0) (hsz:aa4 n≤4194304):
  Calls Tryz.prog 33 #[.pointer (some ⟨p,0,none⟩)] w1 fun e w'=>e= .returned (.tuple #[.int .i64 (msS n),.int .i64 (msD n),.int .i64 (msE n)])∧Below w1.heap.size w1 w':=
 (aT2 n p 0 0 w1.heap.size w1 (hx.ndc hc (ad5 hr (hb.mono hB)) (Nat.le_trans hB hb.size)) (Nat.le_refl _) hsz).mono fun e w' ⟨he,hw⟩=>⟨by rw [he,bJ2],hw⟩
theorem bj6 (n:Nd) (v:Value) (w:World) (L B:Nat) (hv:NdV w L B n v) (hB:B≤w.heap.size) (hsz:aa4 n≤4194304):
  Calls Tryz.prog 25 #[v] w fun e w'=>e= .returned (.int .i64 (msD n))∧Below w.heap.size w w':=by
 obtain⟨b,cap,rfl,hcap,hrow⟩:=hv
 unfold aa7 at*
 have hba:=ac0 w (.cells #[.int .i64 n.kind,.string n.text,.slice b n.kids.length cap,.int .i64 n.from',.int .i64 n.till] 27)
 have hbx:=aq5 w n b cap
 have HR:=hJ hrow
 clear hrow
 go_enter Tryz.func25,Tryz.ntmps25
 go_upto_region 1 with fail
 generalize World.alloc w _=w1 at*
 have HB:=hJ hba
 have HN:=hJ (aE1 n w w1 L B _ b cap hba hB hbx hcap HR.out hsz)
 clear hba hbx hsz
 go_wp2_with fail
 refine HN.out.mono ?_
 rintro e w2 ⟨rfl,hb2⟩
 have HB2:=hJ (aa0 HB.out hb2)
 clear hb2
 go_wp2_with fail
 go_ret
 exact⟨rfl,HB2.out⟩
end
end Go.Proofs.YtnobjeelihkjmaaGreatDoor
