/- Steps (LiP). Conditions: as stated. -/
import Derived.Test.YtcgbkjhoifhnnaaGreatDoorPn42
namespace Go.Proofs.YtcgbkjhoifhnnaaGreatDoor
section
open Go.RowKit
theorem bc8 {g:Int} {l:List UInt8} :ai1 g (46::46::46::118::l)= .fine 5 3:=by
 have hdig:ai4 (46::46::46::118::l)=false:=rfl
 have hdig2:ai4 (46::46::118::l)=false:=rfl
 have hname:al6 false (46::46::46::118::l)=0:=by
  unfold al6
  rw [am0 _ _ (by decide),if_neg]
  rintro⟨_,h⟩
  revert h
  decide
 have hpct:pct g (46::46::46::118::l)=3:=by
  rw [bx5 (by decide)]
  have hf:ah3.find? (ax8 (46::46::46::118::l))=some [46,46,46]:=by
   simp [ah3,ax8,Lib.hasPrefix,List.find?,List.isPrefixOf]
  rw [hf]
  rfl
 unfold ai1
 rw [if_neg (by simp),if_neg (by rw [af8 (by decide)];decide),if_neg (by rw [af8 (by decide)];decide),if_neg (by rw [hdig,List.drop_succ_cons,List.drop_zero,hdig2];simp),if_neg (by rw [af8 (by decide),af8 (by decide)];simp),if_neg (by rintro⟨_,h⟩;rw [af8 (by decide)] at h;cases h),if_neg (by rw [hname];simp),hpct,if_pos (by decide)]
theorem aH2 {c:UInt8} (l:List UInt8) (h:c=44∨c=58∨c=40):an6 false (c::l)=false∧0≤(nx (c::l)).2:=by
 have key: ∀d:UInt8,d.toNat<128→au8 (((d).toNat:Nat):Int)=false→an6 false (d::l)=false∧0≤(nx (d::l)).2:=by
  intro d h1 h2
  refine⟨?_,by rw [am0 _ _ h1];exact(show(0:Int)≤1 by decide)⟩
  unfold an6
  rw [am0 _ _ h1]
  simp only [h2,Bool.false_and,Bool.or_false,Bool.and_false]
 rcases h with rfl|rfl|rfl<;>exact key _ (by decide) (by kernel_rfl)
@[reducible] def mkT (c:UInt8) (p:Nat):Tk:=⟨5,⟨#[c]⟩,(p:Int),((p+1:Nat):Int),false⟩
@[reducible] def dT (p:Nat):Tk:=⟨5,⟨#[46,46,46]⟩,(p:Int),((p+3:Nat):Int),false⟩
@[reducible] def vT (p:Nat) (d:List UInt8):Tk:=⟨1,⟨(118::d).toArray⟩,(p:Int),((p+(118::d).length:Nat):Int),false⟩
@[reducible] def ifT (p:Nat):Tk:=⟨1,⟨#[105,102]⟩,(p:Int),((p+2:Nat):Int),false⟩
section
variable {s:ByteArray} {m:Bool} {g ne ar:Int} {p:Nat} {c:UInt8} {d r:List UInt8} {f:Nat}
theorem al8 (hg:g=1∨g=2) (hc:c=44∨c=58∨c=91∨c=93∨c=40∨c=41∨c=123∨c=125) (hd:s.data.toList.drop p=c::r):Sees s g p (mkT c p):=by
 rcases hc with rfl|rfl|rfl|rfl|rfl|rfl|rfl|rfl<;>exact bn0 hg hd (by decide) (by decide) (by decide) (by decide) (by decide) ((bx5 (by decide)).trans rfl)
theorem by0 (hg:g=1∨g=2) (hd:s.data.toList.drop p=46::46::46::118::r):Sees s g p (dT p):=
 ay5 hg (a:= [46,46,46]) (l:=118::r) hd (Nat.le_of_lt (aL8 hd)) (aD3 (by decide) (by decide) (by decide) (by decide)) bc8
theorem ba1 (hg:g=1∨g=2) (hD: ∀x ∈ d,48≤x.toNat∧x.toNat≤57) (hc:c=44∨c=58∨c=40) (hd:s.data.toList.drop p=(118::d)++c::r):Sees s g p (vT p d):=
 ay5 hg (a:=118::d) (l:=c::r) hd (Nat.le_of_lt (aL8 (c:=118) (l:=d++c::r) hd)) (aD3 (by decide) (by decide) (by decide) (by decide)) (az4 (by decide) (ax3 (by decide)) (fun x hx=>bp9 (hD x hx)) (aH2 r hc).1 (aH2 r hc).2)
theorem bD1 (hg:g=1∨g=2) (hd:s.data.toList.drop p=105::102::58::r):Sees s g p (ifT p):=
 ay5 hg (a:= [105,102]) (l:=58::r) hd (Nat.le_of_lt (aL8 hd)) (aD3 (by decide) (by decide) (by decide) (by decide)) (az4 (a:= [102]) (by decide) (ax3 (by decide)) (fun x hx=>bs9 (by revert x;decide)) (aH2 r (.inr (.inl rfl))).1 (aH2 r (.inr (.inl rfl))).2)
theorem aO4 {c:UInt8} {p:Nat} {y:ByteArray} (h:(⟨#[c]⟩:ByteArray)≠y): ¬(punctT (mkT c p) y=true):=by
 rw [ay2 h]
 decide
theorem bE9 (p:Nat):Stp (mkT 44 p):=⟨.inr rfl,⟨rfl,rfl,rfl,rfl,(show¬(5:Int)=7 by decide),(show¬(5:Int)=8 by decide),rfl,rfl⟩⟩
theorem aJ4 [C:CsC] {P:Ps} (hD:Dg d) (hg:g=1∨g=2) (hd:s.data.toList.drop p=(118::d)++44::r) (h0:0≤ne) (h1:ne<4000) (hp:ab5 s 2 P= .ok (vT p d) (Zs p (vT p d) g 1 ne ar)):
  runQ s m (f+9) .assign P= .ok (ad6 1 (vT p d)) (Zs ((p+(118::d).length:Nat):Int) (mkT 44 (p+(118::d).length)) 1 1 ne p):=
 bf1 f (v_nm hD _ _ _) hg hp (al8 (.inl rfl) (.inl rfl) (as3 hd)) (bE9 _) rfl rfl rfl h0 h1
theorem bv0 [C:CsC] (hD:Dg d) (hg:g=1∨g=2) (hd:s.data.toList.drop p=(118::d)++44::r) (h0:0≤ne) (h1:ne<4000):
  runQ s m (f+10) .spread (Zs p (vT p d) g 1 ne ar)= .ok (ad6 1 (vT p d)) (Zs ((p+(118::d).length:Nat):Int) (mkT 44 (p+(118::d).length)) 1 1 ne p):=by
 have hv:=v_nm hD (p:Int) ((p+(118::d).length:Nat):Int) false
 show an5 s (runQ s m (f+9)) _=_
 unfold an5
 rw [PM.go (an3 hg hv.sl (by decide)),if_neg (by rw [hv.punctT];decide)]
 exact aJ4 hD hg hd h0 h1 (an3 hg hv.sl (by decide))
theorem bu9 [C:CsC] (hD:Dg d) (hg:g=1∨g=2) (hd:s.data.toList.drop p=46::46::46::((118::d)++44::r)) (h0:0≤ne) (h1:ne<4000):
  runQ s m (f+10) .spread (Zs p (dT p) g 1 ne ar)= .ok (.mk 18 ⟨#[]⟩ [ad6 1 (vT (p+3) d)] p ((p+3+(118::d).length:Nat):Int)) (Zs ((p+3+(118::d).length:Nat):Int) (mkT 44 (p+3+(118::d).length)) 1 1 ne ((p+3:Nat):Int)):=by
 have hd3:s.data.toList.drop (p+3)=(118::d)++44::r:=as3 (a:= [46,46,46]) hd
 show an5 s (runQ s m (f+9)) _=_
 unfold an5
 rw [PM.go (an3 hg rfl (by decide)),if_pos (by rfl),PM.go as0,PM.go (aJ4 hD (.inr rfl) hd3 h0 h1 (ad2 (ba1 (.inr rfl) hD.2 (.inl rfl) hd3)))]
 rfl
theorem by7 [C:CsC] {j:Nat} {n:Nd} (hk:n.kind=18) (hc:C.cs.length≤1000) (h1:okI n.from'=true) (h2:okI n.till=true):
  ah1 s n (Zs j (mkT 44 j) 1 1 ne ar)= .ok () (@Zs ⟨(n.from',n.till)::C.cs⟩ j (mkT 44 j) 1 1 ne ar):=by
 unfold ah1
 rw [if_pos hk,PM.go (ab6 (by decide)),if_pos (by rfl),PM.go (aC9 _),if_neg]
 ·rfl
 ·rintro(h|h|h)
  ·have e:(Zs j (mkT 44 j) 1 1 ne ar:Ps).commas=C.cs:=rfl
   rw [e] at h
   omega
  ·rw [h1] at h;cases h
  ·rw [h2] at h;cases h
theorem bk5 {x:Nat} (h:x≤16777216):okI (x:Int)=true:=by
 unfold okI
 rw [decide_eq_true (by omega),decide_eq_true (by omega)]
 rfl
end
abbrev Li:=Nat × List UInt8
def spI (x:Li):List UInt8:=if x.1=1 then 46::46::46::(118::x.2) else 118::x.2
def spK (x:Li) (p:Nat):Tk:=if x.1=1 then dT p else vT p x.2
def vN (x:Li):Nd:= .mk 1 ⟨(118::x.2).toArray⟩ [] 0 0
def spN (x:Li):Nd:=if x.1=1 then .mk 18 ⟨#[]⟩ [vN x] 0 0 else vN x
def arrI (x:Li):List UInt8:=if x.1=0 then [44] else spI x++ [44]
def arrN (x:Li):Nd:=if x.1=0 then .zero else spN x
def argI (x:Li):List UInt8:=if x.1=0 then [] else spI x++ [44]
def objI (x:Li):List UInt8:=if x.1=0 then 118::x.2++ [44] else if x.1=1 then spI x++ [44] else 105::102::58::(118::x.2)++ [44]
def objN (x:Li):Nd:=if x.1=0 then .mk 13 ⟨#[115,104,111,114,116]⟩ [vN x] 0 0 else if x.1=1 then spN x else .mk 13 ⟨#[]⟩ [.mk 1 ⟨#[105,102]⟩ [] 0 0,vN x] 0 0
def objK (x:Li) (p:Nat):Tk:=if x.1=0 then vT p x.2 else if x.1=1 then dT p else ifT p
structure KsA (K W:List Nd) (n:Nat):Prop where
 bare:af2 K=W
 np:ak2 K=true
 sz:ac1 K≤n
theorem KsA.cons {k w:Nd} {K W:List Nd} {n:Nat} (h:KsA K W n) (hb:ac5 k=w) (hn:an2 k=true) (hz:aa1 k≤3):KsA (k::K) (w::W) (n+3):=
 ⟨by rw [af2,hb,h.bare],by rw [ak2,hn,h.np];rfl,by rw [ac1];have:=h.sz;omega⟩
theorem KsA.nil:KsA [] [] 0:=⟨by rw [af2],rfl,Nat.le_refl _⟩
section
variable {s:ByteArray} {m:Bool} {g ne ar:Int} {p:Nat} {r:List UInt8} {f:Nat}
theorem aX4 (x:Li) (hD:Dg x.2) (p:Nat):aI8 (spK x p)=false∧(∀y:ByteArray,y≠⟨#[46,46,46]⟩→punctT (spK x p) y=false):=by
 unfold spK
 split
 ·exact⟨rfl,fun y hy=>ay2 (Ne.symm hy)⟩
 ·have hv:=v_nm hD (p:Int) ((p+(118::x.2).length:Nat):Int) false
  exact⟨hv.sl,fun y _=>hv.punctT y⟩
theorem aL6 (x:Li) (hD:Dg x.2) (hg:g=1∨g=2) (hd:s.data.toList.drop p=spI x++44::r):Sees s g p (spK x p):=by
 unfold spI at hd
 unfold spK
 split at hd
 ·rw [if_pos ‹_›]
  exact by0 hg (r:=x.2++44::r) hd
 ·rw [if_neg ‹_›]
  exact ba1 hg hD.2 (.inl rfl) hd
theorem aS0 [C:CsC] (x:Li) (hD:Dg x.2) (hg:g=1∨g=2) (hd:s.data.toList.drop p=spI x++44::r) (hs:s.size≤16777216) (hc:C.cs.length≤1000) (h0:0≤ne) (h1:ne<4000):
  ∃(C1:CsC) (k:Nd) (ar1:Int) (j:Nat),runQ s m (f+10) .spread (@Zs C p (spK x p) g 1 ne ar)= .ok k (@Zs C j (mkT 44 j) 1 1 ne ar1)∧ah1 s k (@Zs C j (mkT 44 j) 1 1 ne ar1)= .ok () (@Zs C1 j (mkT 44 j) 1 1 ne ar1)∧
   s.data.toList.drop j=44::r∧C1.cs.length≤C.cs.length+1∧ac5 k=spN x∧an2 k=true∧aa1 k≤3:=by
 unfold spI at hd
 unfold spK spN vN
 split at hd
 ·rw [if_pos ‹_›,if_pos ‹_›]
  have hlt:=aL8 hd
  have hd3:s.data.toList.drop (p+3)=(118::x.2)++44::r:=as3 (a:= [46,46,46]) hd
  have hf:=bD9 hd3 (by have:=aL8 (c:=118) (l:=x.2++44::r) hd3;omega)
  exact⟨⟨((p:Int),((p+3+(118::x.2).length:Nat):Int))::C.cs⟩,_,_,_,bu9 hD hg hd h0 h1,by7 rfl hc (bk5 (by omega)) (bk5 (by omega)),as3 hd3,(by exact Nat.le_refl _),by rw [ak9 (by decide),af2,af2,az0],rfl,Nat.le_of_ble_eq_true rfl⟩
 ·rw [if_neg ‹_›,if_neg ‹_›]
  exact⟨C,_,_,_,bv0 hD hg hd h0 h1,bg6 (leafk_ne) _,as3 hd,Nat.le_succ _,az0 _,rfl,Nat.le_of_ble_eq_true rfl⟩
where leafk_ne {t:Tk} :(ad6 1 t).kind≠18:=show(1:Int)≠18 by decide
theorem bp2 (f:Nat) (hs:s.size≤16777216) (h0:0≤ne) (h1:ne<4000) (l:List Li): ∀(C:CsC) (p:Nat) (tk:Tk) (ar:Int) (ks:List Nd) (g:Nat),l.length<g→(∀x ∈ l,Dg x.2)→s.data.toList.drop p=l.flatMap arrI++93::r→ks.length+l.length≤1000→C.cs.length+l.length≤1000→
  ∃(C1:CsC) (K:List Nd) (ar1:Int) (q:Nat),aq7 s (runQ s m (f+10)) g ks (@Zs C p tk 0 1 ne ar)= .ok (ks++K) (@Zs C1 q (mkT 93 q) 2 1 ne ar1)∧s.data.toList.drop q=93::r∧KsA K (l.map arrN) (3*l.length):=by
 induction l with
 |nil=>
  intro C p tk ar ks g hg _ hd hk hc
  obtain⟨g,rfl⟩: ∃x,g=x+1:=⟨g - 1,by simp at hg;omega⟩
  refine⟨C,[],ar,p,?_,hd,KsA.nil⟩
  unfold aq7
  rw [if_neg (by simp at hk;omega),PM.go (ad2 (C:=C) (al8 (.inr rfl) (.inr (.inr (.inr (.inl rfl)))) hd)),if_pos (by rfl),List.append_nil]
  rfl
 |cons x l ih=>
  intro C p tk ar ks g hg hD hd hk hc
  rw [List.length_cons] at hg hk hc
  obtain⟨g,rfl⟩: ∃x,g=x+1:=⟨g - 1,by omega⟩
  rw [List.flatMap_cons,List.append_assoc] at hd
  unfold aq7
  rw [if_neg (by omega)]
  by_cases hx:x.1=0
  ·rw [arrI,if_pos hx] at hd
   have hd1:=ak7 hd
   obtain⟨C1,K,ar1,q,a1,a2,a3⟩:=ih C (p+1) (mkT 44 p) ar (ks++ [.zero]) g (by omega) (fun y hy=>hD y (.tail _ hy)) hd1 (by rw [List.length_append,List.length_singleton];omega) (by omega)
   refine⟨C1,.zero::K,ar1,q,?_,a2,?_⟩
   ·rw [PM.go (ad2 (C:=C) (al8 (.inr rfl) (.inl rfl) hd)),if_neg (aO4 (by decide)),PM.go (bG1 (C:=C) (aK8 (C:=C) (by decide) (by decide) (by decide) rfl) rfl),if_pos (by rfl)]
    rw [List.append_assoc] at a1
    exact a1
   ·rw [List.map_cons,arrN,if_pos hx,List.length_cons]
    exact a3.cons (by rw [Nd.zero,ak9 (by decide),af2]) rfl (Nat.le_of_ble_eq_true rfl)
  ·rw [arrI,if_neg hx,List.append_assoc] at hd
   have hDx:=hD x (.head _)
   obtain⟨C2,k,ar2,j,b1,b2,b3,b4,b5,b6,b7⟩:=aS0 (m:=m) (f:=f) (ar:=ar) x hDx (.inr rfl) hd hs (by omega) h0 h1
   obtain⟨C1,K,ar1,q,a1,a2,a3⟩:=ih C2 (j+1) (mkT 44 j) ar2 (ks++ [k]) g (by omega) (fun y hy=>hD y (.tail _ hy)) (ak7 b3) (by rw [List.length_append,List.length_singleton];omega) (by omega)
   refine⟨C1,k::K,ar1,q,?_,a2,?_⟩
   ·have ht:=aX4 x hDx p
    rw [PM.go (ad2 (C:=C) (aL6 x hDx (.inr rfl) hd)),if_neg (by rw [ht.2 _ (by decide)];decide),PM.go (bz7 (C:=C) (aK8 (C:=C) (by decide) (by decide) (by decide) ht.1) (ht.2 _ (by decide))),if_neg (by decide),PM.go b1,PM.go b2,PM.go (ab6 (C:=C2) (by decide)),if_neg (aO4 (by decide)),PM.go (aB7 (C:=C2) (ab6 (C:=C2) (by decide)) rfl)]
    rw [List.append_assoc] at a1
    exact a1
   ·rw [List.map_cons,arrN,if_neg hx,List.length_cons]
    exact a3.cons b5 b6 b7
theorem bp1 (f:Nat) (hs:s.size≤16777216) (h0:0≤ne) (h1:ne<4000) (l:List Li): ∀(C:CsC) (p:Nat) (tk:Tk) (ar:Int) (ks:List Nd) (g:Nat) (tr:Bool),l.length<g→(∀x ∈ l,Dg x.2)→s.data.toList.drop p=l.flatMap argI++41::r→ks.length+l.length≤1000→C.cs.length+l.length≤1000→
  ∃(C1:CsC) (K:List Nd) (ar1:Int) (q:Nat) (tr1:Bool),ao4 s ⟨#[41]⟩ 2 (fun kids=>if 4194304<kids.length then outP else do
   let k←runQ s m (f+10) .spread
   ah1 s k
   return kids++ [k]) g ks tr (@Zs C p tk 0 1 ne ar)= .ok (ks++K,tr1) (@Zs C1 ((q+1:Nat):Int) (mkT 41 q) 0 1 ne ar1)∧s.data.toList.drop q=41::r∧KsA K ((l.filter fun x=>decide (x.1≠0)).map spN) (3*l.length):=by
 induction l with
 |nil=>
  intro C p tk ar ks g tr hg _ hd hk hc
  obtain⟨g,rfl⟩: ∃x,g=x+1:=⟨g - 1,by simp at hg;omega⟩
  refine⟨C,[],ar,p,tr,?_,hd,KsA.nil⟩
  unfold ao4
  rw [PM.go (ad2 (C:=C) (al8 (.inr rfl) (.inr (.inr (.inr (.inr (.inr (.inl rfl)))))) hd)),if_pos (by rfl),PM.go as0,List.append_nil]
  rfl
 |cons x l ih=>
  intro C p tk ar ks g tr hg hD hd hk hc
  rw [List.length_cons] at hg hk hc
  rw [List.flatMap_cons,List.append_assoc] at hd
  by_cases hx:x.1=0
  ·rw [argI,if_pos hx] at hd
   obtain⟨C1,K,ar1,q,tr1,a1,a2,a3⟩:=ih C p tk ar ks g tr (by omega) (fun y hy=>hD y (.tail _ hy)) hd (by omega) (by omega)
   refine⟨C1,K,ar1,q,tr1,a1,a2,?_⟩
   rw [List.filter_cons_of_neg (by simp [hx]),List.length_cons]
   exact⟨a3.bare,a3.np,by have:=a3.sz;omega⟩
  ·obtain⟨g,rfl⟩: ∃x,g=x+1:=⟨g - 1,by omega⟩
   rw [argI,if_neg hx,List.append_assoc] at hd
   have hDx:=hD x (.head _)
   obtain⟨C2,k,ar2,j,b1,b2,b3,b4,b5,b6,b7⟩:=aS0 (m:=m) (f:=f) (ar:=ar) x hDx (.inr rfl) hd hs (by omega) h0 h1
   obtain⟨C1,K,ar1,q,tr1,a1,a2,a3⟩:=ih C2 (j+1) (mkT 44 j) ar2 (ks++ [k]) g true (by omega) (fun y hy=>hD y (.tail _ hy)) (ak7 b3) (by rw [List.length_append,List.length_singleton];omega) (by omega)
   refine⟨C1,k::K,ar1,q,tr1,?_,a2,?_⟩
   ·have ht:=aX4 x hDx p
    have hone:(if 4194304<ks.length then outP else do
      let k←runQ s m (f+10) .spread
      ah1 s k
      return ks++ [k]:PM (List Nd)) (@Zs C p (spK x p) 2 1 ne ar)= .ok (ks++ [k]) (@Zs C2 j (mkT 44 j) 1 1 ne ar2):=by
     rw [if_neg (by omega),PM.go b1,PM.go b2]
     rfl
    unfold ao4
    rw [PM.go (ad2 (C:=C) (aL6 x hDx (.inr rfl) hd)),if_neg (by rw [ht.2 _ (by decide)];decide),PM.go hone,PM.go (ab6 (C:=C2) (by decide)),if_neg (aO4 (by decide)),PM.go (aB7 (C:=C2) (ab6 (C:=C2) (by decide)) rfl)]
    rw [List.append_assoc] at a1
    exact a1
   ·rw [List.filter_cons_of_pos (by simp [hx]),List.map_cons,List.length_cons]
    exact a3.cons b5 b6 b7
theorem aY7 [C:CsC] {i:Int} {t:Tk} (hk:t.kind=1) (hn: ∀x:ByteArray,x=⟨#[103,101,116]⟩∨x=⟨#[115,101,116]⟩∨x=⟨#[97,115,121,110,99]⟩→t.text≠x):
  runQ s m (f+2) (.members false) (Zs i t 1 1 ne ar)= .ok ⟨t.from',false,⟨#[]⟩,ad6 1 t,false⟩ (Zs t.till t 0 1 ne ar):=by
 have hm: ∀x:ByteArray,x=⟨#[103,101,116]⟩∨x=⟨#[115,101,116]⟩∨x=⟨#[97,115,121,110,99]⟩→ah2 s x (Zs i t 1 1 ne ar)= .ok () (Zs i t 1 1 ne ar):=by
  intro x hx
  unfold ah2
  rw [PM.go (ab6 (by decide)),if_neg (by rw [ap8 (hn x hx)];decide)]
  rfl
 have hkey:runQ s m (f+1) (.takeKey false) (Zs i t 1 1 ne ar)= .ok (ad6 1 t) (Zs t.till t 0 1 ne ar):=by
  show aq3 s _=_
  unfold aq3
  rw [PM.go (ab6 (by decide)),if_pos hk,PM.go as0]
  rfl
 show ap7 s (runQ s m (f+1)) false _=_
 unfold ap7
 rw [if_neg (by decide),PM.go (ab6 (by decide))]
 unfold aO5
 rw [PM.go (hm _ (.inl rfl))]
 unfold aO5
 rw [PM.go (hm _ (.inr (.inl rfl)))]
 unfold aO5 au3
 rw [PM.go (hm _ (.inr (.inr rfl))),PM.go (bz7 (ab6 (by decide)) (av1 (by rw [hk];decide))),if_neg (by decide),PM.go hkey]
 rfl
theorem bc9 [C:CsC] {d:List UInt8} (hD:Dg d) (hd:s.data.toList.drop p=(118::d)++44::r):
  runQ s m (f+3) .prop (Zs p (vT p d) 1 1 ne ar)= .ok (.mk 13 ⟨#[115,104,111,114,116]⟩ [ad6 1 (vT p d)] p ((p+(118::d).length:Nat):Int)) (Zs ((p+(118::d).length:Nat):Int) (mkT 44 (p+(118::d).length)) 1 1 ne ar):=by
 have kw: ∀x:ByteArray,x=⟨#[103,101,116]⟩∨x=⟨#[115,101,116]⟩∨x=⟨#[97,115,121,110,99]⟩→(vT p d).text≠x:=by
  intro x hx e
  have e2:=congrArg (fun y:ByteArray=>y.data.toList.headD 0) e
  rcases hx with rfl|rfl|rfl<;>exact absurd e2 (by show¬(118:UInt8)=_;decide)
 have hid:=(v_nm hD 0 0 false).ident m 1
 show aK9 s m (runQ s m (f+2)) _=_
 unfold aK9
 rw [PM.go (aY7 rfl kw),PM.go (ad2 (al8 (.inl rfl) (.inl rfl) (as3 hd))),if_neg (by rintro(h|h);exact aO4 (by decide) h;exact h rfl),if_neg (aO4 (by decide)),PM.go (aC9 _),if_neg]
 ·rw [if_neg (aO4 (by decide))]
  rfl
 ·rintro(h|h)
  ·exact h rfl
  ·exact absurd (hid.symm.trans h) (by decide)
theorem bu1 [C:CsC] {d:List UInt8} (hD:Dg d) (hd:s.data.toList.drop p=105::102::58::((118::d)++44::r)) (h0:0≤ne) (h1:ne<4000):
  runQ s m (f+10) .prop (Zs p (ifT p) 1 1 ne ar)= .ok (.mk 13 ⟨#[]⟩ [ad6 1 (ifT p),ad6 1 (vT (p+3) d)] p ((p+3+(118::d).length:Nat):Int)) (Zs ((p+3+(118::d).length:Nat):Int) (mkT 44 (p+3+(118::d).length)) 1 1 ne ((p+3:Nat):Int)):=by
 have kw: ∀x:ByteArray,x=⟨#[103,101,116]⟩∨x=⟨#[115,101,116]⟩∨x=⟨#[97,115,121,110,99]⟩→(ifT p).text≠x:=by
  intro x hx
  rcases hx with rfl|rfl|rfl<;>(show(⟨#[105,102]⟩:ByteArray)≠_;decide)
 have hd2:s.data.toList.drop (p+2)=58::((118::d)++44::r):=as3 (a:= [105,102]) hd
 have hd3:=ak7 hd2
 show aK9 s m (runQ s m (f+9)) _=_
 unfold aK9
 rw [PM.go (aY7 (f:=f+7) rfl kw),PM.go (ad2 (al8 (.inl rfl) (.inr (.inl rfl)) hd2)),if_neg (by rintro(h|h);exact aO4 (by decide) h;exact h rfl),if_pos (by rfl),PM.go as0,PM.go (aJ4 hD (.inr rfl) hd3 h0 h1 (ad2 (ba1 (.inr rfl) hD.2 (.inl rfl) hd3)))]
 rfl
theorem aP2 (x:Li) (hD:Dg x.2) (hg:g=1∨g=2) (hd:s.data.toList.drop p=objI x++r):Sees s g p (objK x p):=by
 unfold objI at hd
 unfold objK
 split at hd
 ·rw [if_pos ‹_›]
  rw [List.append_assoc] at hd
  exact ba1 hg hD.2 (.inl rfl) hd
 ·rw [if_neg ‹_›]
  split at hd
  ·rw [if_pos ‹_›]
   rw [spI,if_pos ‹_›] at hd
   exact by0 hg (r:=x.2++44::r) (by rw [hd];simp)
  ·rw [if_neg ‹_›]
   exact bD1 hg (r:=(118::x.2)++44::r) (by rw [hd];simp)
theorem aZ4 (x:Li) (hD:Dg x.2) (p:Nat) (y:ByteArray) (hy:y≠⟨#[46,46,46]⟩):punctT (objK x p) y=false:=by
 unfold objK
 split
 ·exact(v_nm hD (p:Int) ((p+(118::x.2).length:Nat):Int) false).punctT y
 ·split
  ·exact ay2 (Ne.symm hy)
  ·exact av1 (show¬(1:Int)=5 by decide)
theorem bz8 [C:CsC] (x:Li) (hD:Dg x.2) (hd:s.data.toList.drop p=objI x++r) (hs:s.size≤16777216) (hc:C.cs.length≤1000) (h0:0≤ne) (h1:ne<4000) (ks:List Nd) (hk:ks.length≤1000):
  ∃(C1:CsC) (k:Nd) (ar1:Int) (j:Nat),aK3 s (runQ s m (f+10)) ks (@Zs C p (objK x p) 1 1 ne ar)= .ok (ks++ [k]) (@Zs C1 j (mkT 44 j) 1 1 ne ar1)∧s.data.toList.drop j=44::r∧C1.cs.length≤C.cs.length+1∧ac5 k=objN x∧an2 k=true∧aa1 k≤3:=by
 unfold aK3
 rw [if_neg (by omega)]
 by_cases hx:x.1=0
 ·rw [objI,if_pos hx,List.append_assoc] at hd
  rw [objN,if_pos hx,show objK x p=vT p x.2 from if_pos hx]
  refine⟨C,.mk 13 ⟨#[115,104,111,114,116]⟩ [ad6 1 (vT p x.2)] p ((p+(118::x.2).length:Nat):Int),ar,_,?_,as3 hd,Nat.le_succ _,by rw [ak9 (by decide),af2,af2,az0,vN],rfl,Nat.le_of_ble_eq_true rfl⟩
  rw [PM.go (ab6 (by decide)),if_neg (by rw [(v_nm hD (p:Int) ((p+(118::x.2).length:Nat):Int) false).punctT];decide),PM.go (bc9 (f:=f+7) hD hd)]
  rfl
 ·rw [objI,if_neg hx] at hd
  rw [objN,if_neg hx]
  by_cases hx1:x.1=1
  ·rw [if_pos hx1,List.append_assoc] at hd
   obtain⟨C1,k,ar1,j,b1,b2,b3,b4,b5,b6,b7⟩:=aS0 (m:=m) (f:=f) (ar:=ar) (g:=1) x hD (.inl rfl) hd hs hc h0 h1
   rw [spK,if_pos hx1] at b1
   rw [if_pos hx1,show objK x p=dT p from(if_neg hx).trans (if_pos hx1)]
   refine⟨C1,k,ar1,j,?_,b3,b4,b5,b6,b7⟩
   rw [PM.go (ab6 (C:=C) (by decide)),if_pos (by rfl),PM.go b1,PM.go b2]
   rfl
  ·rw [if_neg hx1] at hd
   rw [if_neg hx1,show objK x p=ifT p from(if_neg hx).trans (if_neg hx1)]
   have hd2:s.data.toList.drop p=105::102::58::((118::x.2)++44::r):=by rw [hd];simp
   refine⟨C,.mk 13 ⟨#[]⟩ [ad6 1 (ifT p),ad6 1 (vT (p+3) x.2)] p ((p+3+(118::x.2).length:Nat):Int),((p+3:Nat):Int),p+3+(118::x.2).length,?_,as3 (a:=118::x.2) (as3 (a:= [105,102,58]) hd2),Nat.le_succ _,by rw [ak9 (by decide),af2,af2,af2,az0,az0,vN],rfl,Nat.le_of_ble_eq_true rfl⟩
   rw [PM.go (ab6 (by decide)),if_neg (by rw [av1 (show¬(1:Int)=5 by decide)];decide),PM.go (bu1 hD hd2 h0 h1)]
   rfl
theorem bt3 (f:Nat) (hs:s.size≤16777216) (h0:0≤ne) (h1:ne<4000) (l:List Li): ∀(C:CsC) (p:Nat) (tk:Tk) (ar:Int) (ks:List Nd) (g:Nat) (tr:Bool),l.length<g→(∀x ∈ l,Dg x.2)→s.data.toList.drop p=l.flatMap objI++125::r→ks.length+l.length≤1000→C.cs.length+l.length≤1000→
  ∃(C1:CsC) (K:List Nd) (ar1:Int) (q:Nat) (tr1:Bool),ao4 s ⟨#[125]⟩ 1 (aK3 s (runQ s m (f+10))) g ks tr (@Zs C p tk 0 1 ne ar)= .ok (ks++K,tr1) (@Zs C1 ((q+1:Nat):Int) (mkT 125 q) 0 1 ne ar1)∧s.data.toList.drop q=125::r∧KsA K (l.map objN) (3*l.length):=by
 induction l with
 |nil=>
  intro C p tk ar ks g tr hg _ hd hk hc
  obtain⟨g,rfl⟩: ∃x,g=x+1:=⟨g - 1,by simp at hg;omega⟩
  refine⟨C,[],ar,p,tr,?_,hd,KsA.nil⟩
  unfold ao4
  rw [PM.go (ad2 (C:=C) (al8 (.inl rfl) (.inr (.inr (.inr (.inr (.inr (.inr (.inr rfl))))))) hd)),if_pos (by rfl),PM.go as0,List.append_nil]
  rfl
 |cons x l ih=>
  intro C p tk ar ks g tr hg hD hd hk hc
  rw [List.length_cons] at hg hk hc
  rw [List.flatMap_cons,List.append_assoc] at hd
  obtain⟨g,rfl⟩: ∃x,g=x+1:=⟨g - 1,by omega⟩
  have hDx:=hD x (.head _)
  obtain⟨C2,k,ar2,j,b1,b3,b4,b5,b6,b7⟩:=bz8 (m:=m) (f:=f) (ar:=ar) x hDx hd hs (by omega) h0 h1 ks (by omega)
  obtain⟨C1,K,ar1,q,tr1,a1,a2,a3⟩:=ih C2 (j+1) (mkT 44 j) ar2 (ks++ [k]) g true (by omega) (fun y hy=>hD y (.tail _ hy)) (ak7 b3) (by rw [List.length_append,List.length_singleton];omega) (by omega)
  refine⟨C1,k::K,ar1,q,tr1,?_,a2,?_⟩
  ·unfold ao4
   rw [PM.go (ad2 (C:=C) (aP2 x hDx (.inl rfl) hd)),if_neg (by rw [aZ4 x hDx p _ (by decide)];decide),PM.go b1,PM.go (ab6 (C:=C2) (by decide)),if_neg (aO4 (by decide)),PM.go (aB7 (C:=C2) (ab6 (C:=C2) (by decide)) rfl)]
   rw [List.append_assoc] at a1
   exact a1
  ·rw [List.map_cons,List.length_cons]
   exact a3.cons b5 b6 b7
theorem bo2 {C':CsC} [C:CsC] {t u:Tk} {i j ar2:Int} {n:Nd} {q:Ps} (hs:ab5 s 2 (Zs i t g 1 ne ar)= .ok t (Zs i t g 1 ne ar)) (e1:sgB t=false) (e2:nameT t ⟨#[97,119,97,105,116]⟩=false) (e3:(punctT t ⟨#[43,43]⟩||punctT t ⟨#[45,45]⟩)=false)
  (hl:runQ s m f .leftHand (Zs i t g 1 ne ar)= .ok n q) (h22:n.kind≠22) (hq:ab5 s 1 q= .ok u (@Zs C' j u 1 1 ne ar2)) (hu:Endy u):runQ s m (f+1) .unary (Zs i t g 1 ne ar)= .ok n (@Zs C' j u 1 1 ne ar2):=by
 show ay8 s (runQ s m f) _=_
 unfold ay8
 rw [PM.go hs]
 show(if sgB t=true then _ else _:PM Nd) _=_
 rw [if_neg (by rw [e1];decide),PM.go (aC9 _),if_neg (by rw [e2];simp),if_neg (by rw [e3];decide),PM.go hl,if_neg h22,PM.go hq,if_neg (by rw [hu.inc,hu.dec];simp)]
 rfl
theorem bG3 {C':CsC} [C:CsC] {t u:Tk} {i j ar2:Int} {n:Nd} {q:Ps} (hs:ab5 s 2 (Zs i t g 1 ne ar)= .ok t (Zs i t g 1 ne ar)) (hb:runQ s m (f+1) (.base t true) (Zs i t g 1 ne ar)= .ok n q) (h22:n.kind≠22) (h1:n.kind≠1) (hq:ab5 s 1 q= .ok u (@Zs C' j u 1 1 ne ar2)) (hu:Endy u):
  runQ s m (f+2) .leftHand (Zs i t g 1 ne ar)= .ok n (@Zs C' j u 1 1 ne ar2):=by
 show ad4 s (f+1) (runQ s m (f+1)) _=_
 unfold ad4
 rw [PM.go hs,PM.go (aC9 _)]
 show(runQ s m (f+1) (.base t true)>>=_) _=_
 rw [PM.go hb,if_neg h22,if_neg (by rw [show decide (n.kind=1)=false from decide_eq_false h1];simp)]
 unfold ad4.linkL
 rw [PM.go hq,if_neg (by rw [hu.opt];decide),PM.go (aS3 (C:=C') f n true true hu (ab6 (C:=C') (by decide))),if_neg (show¬((false:Bool)=true) by decide)]
 rfl
theorem bE7 {t:Tk} (ht:Opn 123 t) (p:Ps):runQ s m (f+2) (.base t true) p=runQ s m f .object p:=by
 show aC3 s m (runQ s m (f+1)) t true p=_
 unfold aC3
 rw [if_neg (by rw [ht.name];decide),if_neg (by rw [ht.name];decide),if_neg (by rw [ht.name];decide)]
 show aj4 (runQ s m f) t p=_
 have hk:=ht.kind
 unfold aj4
 rw [if_neg (by omega),if_neg (by omega),if_neg (by omega),if_neg (by omega),if_neg (by rw [ht.no (by decide)];decide),if_pos ht.yes]
theorem aE0 (c:UInt8) (p:Nat):Opn c (mkT c p):=⟨rfl,rfl⟩
theorem bJ7 {c:UInt8} (hc:c=40∨c=91∨c=123) (p:Nat):sgB (mkT c p)=false∧nameT (mkT c p) ⟨#[97,119,97,105,116]⟩=false∧(punctT (mkT c p) ⟨#[43,43]⟩||punctT (mkT c p) ⟨#[45,45]⟩)=false:=by
 rcases hc with rfl|rfl|rfl<;>exact⟨rfl,rfl,rfl⟩
theorem aJ3 {C':CsC} [C:CsC] {c:UInt8} (hc:c=40∨c=91∨c=123) {v u:Tk} {j ar2:Int} {n:Nd} {q P:Ps} (hg:g=1∨g=2) (hp:ab5 s 2 P= .ok (mkT c p) (Zs p (mkT c p) g 1 ne ar)) (hb:runQ s m (f+1) (.base (mkT c p) true) (Zs p (mkT c p) g 1 (ne+1) p)= .ok n q) (h22:n.kind≠22) (h1k:n.kind≠1)
  (hq:ab5 s 1 q= .ok u (@Zs C' j u 1 1 (ne+1) ar2)) (hu:Cls u) (hv:Sees s 1 ((p+1:Nat):Int) v) (hvr:punctT v ⟨#[61,62]⟩=false) (h0:0≤ne) (h1:ne<4000):
  runQ s m (f+7) .assign P= .ok n (@Zs C' j u 1 1 ne ar2):=by
 have hsl:aI8 (mkT c p)=false:=by rcases hc with rfl|rfl|rfl<;>rfl
 have hself:ab5 s 2 (Zs p (mkT c p) g 1 (ne+1) p)= .ok _ _:=an3 hg hsl (by decide)
 obtain⟨s1,s2,s3⟩:=bJ7 hc p
 have hun:=bo2 (C':=C') hself s1 s2 s3 (bG3 (C':=C') hself hb h22 h1k hq hu.stp.e) h22 (ab6 (C:=C') (by decide)) hu.stp.e
 exact bw2 (f:=f+2) (t:=mkT c p) (show(5:Int)≠2 by decide) ((aE0 c p).name _) ((aE0 c p).name _) hp hself hun h22 hu hv hvr h0 h1
theorem bf0 {l:List Li} (hD: ∀x ∈ l,Dg x.2) (hd:s.data.toList.drop p=l.flatMap arrI++93::r): ∃v,Sees s 1 p v∧punctT v ⟨#[61,62]⟩=false:=by
 cases l with
 |nil=>exact⟨_,al8 (.inl rfl) (.inr (.inr (.inr (.inl rfl)))) hd,rfl⟩
 |cons x l=>
  rw [List.flatMap_cons,List.append_assoc] at hd
  unfold arrI at hd
  split at hd
  ·exact⟨_,al8 (.inl rfl) (.inl rfl) hd,rfl⟩
  ·rw [List.append_assoc] at hd
   exact⟨_,aL6 x (hD x (.head _)) (.inl rfl) hd,(aX4 x (hD x (.head _)) p).2 _ (by decide)⟩
theorem bk3 {l:List Li} (hD: ∀x ∈ l,Dg x.2) (hd:s.data.toList.drop p=l.flatMap objI++125::r): ∃v,Sees s 1 p v∧punctT v ⟨#[61,62]⟩=false:=by
 cases l with
 |nil=>exact⟨_,al8 (.inl rfl) (.inr (.inr (.inr (.inr (.inr (.inr (.inr rfl))))))) hd,rfl⟩
 |cons x l=>
  rw [List.flatMap_cons,List.append_assoc] at hd
  exact⟨_,aP2 x (hD x (.head _)) (.inl rfl) hd,aZ4 x (hD x (.head _)) p _ (by decide)⟩
theorem aE3 {K:Int} {ks:List Nd} {a b:Int} (hK:K≠13) (h:ak2 ks=true):an2 (.mk K ⟨#[]⟩ ks a b)=true:=by
 rw [an2,h,decide_eq_false hK]
 rfl
theorem bq2 {l:List Li} (hl:l.length≤40) (hD: ∀x ∈ l,Dg x.2) (hs:s.size≤16777216) (ht:s.data.toList=91::(l.flatMap arrI++ [93])):
  ∃n q,aA6 s false 80= .ok n q∧ac5 n= .mk 11 ⟨#[]⟩ (l.map arrN) 0 0∧aa1 n≤121:=by
 have hd0:s.data.toList.drop 0=91::(l.flatMap arrI++ [93]):=ht
 have hd1:=ak7 hd0
 have hse:=al8 (g:=2) (.inr rfl) (.inr (.inr (.inl rfl))) hd0
 obtain⟨v,v1,v2⟩:=bf0 hD hd1
 obtain⟨C1,K,ar1,q,a1,a2,a3⟩:=bp2 (m:=false) (ne:=1) 60 hs (by decide) (by decide) l CsC.none 1 (mkT 91 0) 0 [] 70 (by omega) hD hd1 (by simp;omega) (by show 0+l.length≤1000;omega)
 have hq:=ak7 a2
 have hend:=aL5 (g:=1) (.inl rfl) hq (aL8 a2)
 have hb:runQ s false 73 (.base (mkT 91 0) true) (@Zs CsC.none 0 (mkT 91 0) 2 1 1 0)= .ok (.mk 11 ⟨#[]⟩ K 0 ((q+1:Nat):Int)) (@Zs C1 ((q+1:Nat):Int) (mkT 93 q) 0 1 1 ar1):=by
  rw [bv9 (f:=71) (.inr rfl) (aE0 91 0),if_neg (by decide)]
  show aC0 s 70 (runQ s false 70) _=_
  unfold aC0
  rw [PM.go (as0 (C:=CsC.none)),PM.go (ba8 (C':=C1) (C:=CsC.none) a1),PM.go (as0 (C:=C1))]
  rfl
 have hx:=aJ3 (C':=C1) (C:=CsC.none) (m:=false) (f:=72) (ne:=0) (ar:= -1) (P:=ps0 false) (p:=0) (.inr (.inl rfl)) (.inr rfl) (ad2 (C:=CsC.none) (tk:=Tk.zero) hse) hb (show(11:Int)≠22 by decide) (show(11:Int)≠1 by decide) (ad2 (C:=C1) hend) (aR3 _) v1 v2 (by decide) (by decide)
 exact⟨_,_,bh9 (C:=C1) (m:=false) (ar0 (C:=C1) hx rfl) rfl (aE3 (by decide) a3.np) (by rw [aa1];have:=a3.sz;omega),by rw [ak9 (by decide),a3.bare],by rw [aa1];have:=a3.sz;omega⟩
theorem bq3 {l:List Li} (hl:l.length≤40) (hD: ∀x ∈ l,Dg x.2) (hs:s.size≤16777216) (ht:s.data.toList=40::123::(l.flatMap objI++ [125,41])):
  ∃n q,aA6 s false 80= .ok n q∧ac5 n= .mk 12 ⟨#[]⟩ (l.map objN) 0 0∧aa1 n≤122:=by
 have hd0:s.data.toList.drop 0=40::123::(l.flatMap objI++ [125,41]):=ht
 have hd1:=ak7 hd0
 have hd2:=ak7 hd1
 have hse:=al8 (g:=2) (.inr rfl) (.inr (.inr (.inr (.inr (.inl rfl))))) hd0
 have hs1:=al8 (g:=1) (.inl rfl) (.inr (.inr (.inr (.inr (.inr (.inr (.inl rfl))))))) hd1
 have hs2:=al8 (g:=2) (.inr rfl) (.inr (.inr (.inr (.inr (.inr (.inr (.inl rfl))))))) hd1
 obtain⟨v,v1,v2⟩:=bk3 hD hd2
 obtain⟨C1,K,ar1,q,tr1,a1,a2,a3⟩:=bt3 (m:=false) (ne:=2) 49 hs (by decide) (by decide) l CsC.none 2 (mkT 123 1) 1 [] 59 false (by omega) hD hd2 (by simp;omega) (by show 0+l.length≤1000;omega)
 have hq:=ak7 a2
 have hc:=al8 (g:=1) (.inl rfl) (.inr (.inr (.inr (.inr (.inr (.inl rfl)))))) hq
 have hq2:=ak7 hq
 have hend:=aL5 (g:=1) (.inl rfl) hq2 (aL8 hq)
 have hb:runQ s false 62 (.base (mkT 123 1) true) (@Zs CsC.none 1 (mkT 123 1) 2 1 2 1)= .ok (.mk 12 ⟨#[]⟩ K 1 ((q+1:Nat):Int)) (@Zs C1 ((q+1:Nat):Int) (mkT 125 q) 0 1 2 ar1):=by
  rw [bE7 (f:=60) (aE0 123 1)]
  show au5 s 59 (runQ s false 59) _=_
  unfold au5
  rw [PM.go (as0 (C:=CsC.none)),PM.go (ba8 (C':=C1) (C:=CsC.none) a1)]
  rfl
 have hx:=aJ3 (C':=C1) (C:=CsC.none) (m:=false) (f:=61) (ne:=1) (ar:=0) (g:=2) (P:= @Zs CsC.none 1 (mkT 123 1) 2 1 1 0) (p:=1) (.inr (.inr rfl)) (.inr rfl) (ab6 (C:=CsC.none) (by decide)) hb (show(12:Int)≠22 by decide) (show(12:Int)≠1 by decide) (ad2 (C:=C1) hc) (bE8 (.inl rfl) _ _) v1 v2 (by decide) (by decide)
 have hpn:=bC0 (C':=C1) (C:=CsC.none) (m:=false) (f:=68) (i:=0) (g:=2) (ne:=1) (t:=mkT 40 0) (v:=mkT 123 1) (u:=mkT 41 (q+1)) (w:=endT (q+1+1)) (aE0 40 0) hs2 rfl rfl hx (show(12:Int)≠18 by decide) rfl hc (aE0 41 _) hend rfl
 have hb2:runQ s false 73 (.base (mkT 40 0) true) (@Zs CsC.none 0 (mkT 40 0) 2 1 1 0)= .ok (.mk 26 ⟨#[]⟩ [.mk 12 ⟨#[]⟩ K 1 ((q+1:Nat):Int)] 0 ((q+1+1:Nat):Int)) (@Zs C1 ((q+1+1:Nat):Int) (endT (q+1+1)) 1 1 1 ar1):=by
  rw [bv9 (f:=71) (.inl rfl) (aE0 40 0),if_pos (by rfl)]
  exact hpn
 have hx2:=aJ3 (C':=C1) (C:=CsC.none) (m:=false) (f:=72) (ne:=0) (ar:= -1) (P:=ps0 false) (p:=0) (.inl rfl) (.inr rfl) (ad2 (C:=CsC.none) (tk:=Tk.zero) hse) hb2 (show(26:Int)≠22 by decide) (show(26:Int)≠1 by decide) (ab6 (C:=C1) (by decide)) (aR3 _) hs1 rfl (by decide) (by decide)
 refine⟨_,_,bh9 (C:=C1) (m:=false) (ar0 (C:=C1) hx2 rfl) rfl (aE3 (by decide) ?_) (by rw [aa1,ac1,ac1,aa1];have:=a3.sz;omega),?_,by rw [aa1,ac1,ac1,aa1];have:=a3.sz;omega⟩
 ·rw [ak2,ak2,aE3 (by decide) a3.np]
  rfl
 ·rw [ac5,if_pos (by rfl),aq8,ak9 (by decide),a3.bare]
@[reducible] def fT:Tk:=⟨1,⟨#[102]⟩,((0:Nat):Int),((1:Nat):Int),false⟩
theorem nm_f (a b:Int):Nm ⟨1,⟨#[102]⟩,a,b,false⟩:=⟨rfl,show aj1 (⟨#[102]⟩:ByteArray) resW=false by decide,show(⟨#[102]⟩:ByteArray)≠_ by decide,show(⟨#[102]⟩:ByteArray)≠_ by decide,rfl⟩
theorem bh8 {l:List Li} (hl:l.length≤40) (hD: ∀x ∈ l,Dg x.2) (hs:s.size≤16777216) (ht:s.data.toList=102::40::(l.flatMap argI++ [41])):
  ∃n q,aA6 s false 80= .ok n q∧ac5 n= .mk 35 ⟨#[]⟩ [.mk 1 ⟨#[102]⟩ [] 0 0,.mk 36 ⟨#[]⟩ ((l.filter fun x=>decide (x.1≠0)).map spN) 0 0] 0 0∧aa1 n≤123:=by
 have hd0:s.data.toList.drop 0= [102]++40::(l.flatMap argI++ [41]):=ht
 have hd1:s.data.toList.drop 1=40::(l.flatMap argI++ [41]):=as3 hd0
 have hd2:=ak7 hd1
 have hse: ∀g:Int,g=1∨g=2→Sees s g 0 fT:=fun g hg=>ay5 hg (a:= [102]) (l:=40::(l.flatMap argI++ [41])) hd0 (Nat.zero_le _) (aD3 (by decide) (by decide) (by decide) (by decide)) (az4 (a:= []) (by decide) (ax3 (by decide)) (fun x hx=>by cases hx) (aH2 _ (.inr (.inr rfl))).1 (aH2 _ (.inr (.inr rfl))).2)
 have hs1:=al8 (g:=1) (.inl rfl) (.inr (.inr (.inr (.inr (.inl rfl))))) hd1
 obtain⟨C1,K,ar1,q,tr1,a1,a2,a3⟩:=bp1 (m:=false) (ne:=1) 60 hs (by decide) (by decide) l CsC.none 2 (mkT 40 1) 0 [] 70 false (by omega) hD hd2 (by simp;omega) (by show 0+l.length≤1000;omega)
 have hq:=ak7 a2
 have hend:=aL5 (g:=1) (.inl rfl) hq (aL8 a2)
 have hf:Nm fT:=nm_f _ _
 have hself:ab5 s 2 (@Zs CsC.none 0 fT 2 1 1 0)= .ok _ _:=ab6 (C:=CsC.none) (by decide)
 have hargs:runQ s false 72 .args (@Zs CsC.none ((1:Nat):Int) (mkT 40 1) 1 1 1 0)= .ok (.mk 36 ⟨#[]⟩ K 1 ((q+1:Nat):Int)) (@Zs C1 ((q+1:Nat):Int) (mkT 41 q) 0 1 1 ar1):=by
  show aR0 s (runQ s false 71) _=_
  unfold aR0
  rw [PM.go (aB7 (C:=CsC.none) (ab6 (C:=CsC.none) (by decide)) rfl)]
  show ag9 s 70 (runQ s false 70) 1 _=_
  unfold ag9
  rw [PM.go (ba8 (C':=C1) (C:=CsC.none) a1)]
  rfl
 have hlink:runQ s false 73 (.link (ad6 1 fT) true true) (@Zs CsC.none ((1:Nat):Int) (mkT 40 1) 1 1 1 0)= .ok (.mk 35 ⟨#[]⟩ [ad6 1 fT,.mk 36 ⟨#[]⟩ K 1 ((q+1:Nat):Int)] 0 ((q+1:Nat):Int),true) (@Zs C1 ((q+1:Nat):Int) (mkT 41 q) 0 1 1 ar1):=by
  show aK5 s (runQ s false 72) _ true true _=_
  unfold aK5
  rw [PM.go (ab6 (C:=CsC.none) (by decide)),if_neg (by decide),if_neg (by decide),if_pos (by rfl),PM.go hargs]
  rfl
 have hu:=aR3 (q+1)
 have hleft:runQ s false 74 .leftHand (@Zs CsC.none 0 fT 2 1 1 0)= .ok (.mk 35 ⟨#[]⟩ [ad6 1 fT,.mk 36 ⟨#[]⟩ K 1 ((q+1:Nat):Int)] 0 ((q+1:Nat):Int)) (@Zs C1 ((q+1:Nat):Int) (endT (q+1)) 1 1 1 ar1):=by
  show ad4 s 73 (runQ s false 73) _=_
  unfold ad4
  rw [PM.go hself,PM.go (aC9 _)]
  show(runQ s false 73 (.base fT true)>>=_) _=_
  rw [PM.go (bw0 (C:=CsC.none) 70 hf (.inr rfl) true),if_neg (aH4 _),if_neg (by rw [show decide ((ad6 1 fT).text=⟨#[97,115,121,110,99]⟩)=false from decide_eq_false hf.asy];simp)]
  unfold ad4.linkL
  rw [PM.go (ad2 (C:=CsC.none) hs1),if_neg (by decide),PM.go hlink,if_pos (by rfl)]
  unfold ad4.linkL
  rw [PM.go (ad2 (C:=C1) hend),if_neg (by rw [hu.stp.e.opt];decide),PM.go (aS3 (C:=C1) 72 _ true true hu.stp.e (ab6 (C:=C1) (by decide))),if_neg (show¬((false:Bool)=true) by decide)]
  rfl
 have hun:=bo2 (C':=C1) (C:=CsC.none) hself (by unfold sgB;rw [hf.nameT (by decide),hf.nameT (by decide),hf.nameT (by decide),hf.punctT,hf.punctT,hf.punctT,hf.punctT];rfl) (ap8 hf.aw) (by rw [hf.punctT,hf.punctT];rfl) hleft (show(35:Int)≠22 by decide) (ab6 (C:=C1) (by decide)) hu.stp.e
 have hx:=bw2 (C':=C1) (C:=CsC.none) (m:=false) (f:=74) (p:=ps0 false) (i:=0) (g:=2) (ne:=0) (ar:= -1) (t:=fT) (show(1:Int)≠2 by decide) (hf.nameT (by decide)) (ap8 hf.asy) (ad2 (C:=CsC.none) (tk:=Tk.zero) (hse 2 (.inr rfl))) hself hun (show(35:Int)≠22 by decide) hu hs1 rfl (by decide) (by decide)
 refine⟨_,_,bh9 (C:=C1) (m:=false) (ar0 (C:=C1) hx rfl) rfl (aE3 (by decide) ?_) (by rw [aa1,ac1,ac1,ac1,aa1,show aa1 (ad6 1 fT)=1 from rfl];have:=a3.sz;omega),?_,by rw [aa1,ac1,ac1,ac1,aa1,show aa1 (ad6 1 fT)=1 from rfl];have:=a3.sz;omega⟩
 ·rw [ak2,ak2,ak2,aE3 (by decide) a3.np]
  rfl
 ·rw [ak9 (by decide),af2,af2,af2,az0,ak9 (by decide),a3.bare]
end
end
end Go.Proofs.YtcgbkjhoifhnnaaGreatDoor
