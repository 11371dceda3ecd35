/- Steps (Tq). Conditions: as stated. -/
import Derived.Test.YtnobjeelihkjmaaGreatDoorZt09
import Derived.Test.YtnobjeelihkjmaaGreatDoorZt37
namespace Go.Proofs.YtnobjeelihkjmaaGreatDoor
section
open Go.RowKit
class CsC where
 cs:List (Int × Int)
instance (priority:=low) CsC.none:CsC:=⟨[]⟩
def Zs [C:CsC] (i:Int) (t:Tk) (g fl ne ar:Int):Ps:=⟨i,t,[],g,[],fl,ne,ar,C.cs⟩
def Sees (s:ByteArray) (g:Int) (i:Int) (t:Tk):Prop:=0≤i∧i≤(s.size:Int)∧∃q n,nxt s i.toNat g= .fine t.kind q n t.line []∧tkOf s t.kind q n t.line=t
def aA0 (t:Tk):Bool:=Lib.hasPrefix t.text.data.toList [47]
theorem PM.go {α β:Type} {x:PM α} {f:α→PM β} {p q:Ps} {a:α} (h:x p= .ok a q):(x>>=f) p=f a q:=by
 show PM.bind x f p=_
 unfold PM.bind
 rw [h]
section
variable {s:ByteArray} {g g' i fl ne ar:Int} {t tk:Tk}
theorem bv5 (h:Sees s 1 i t) (p:Ps):ay6 s i p= .ok t p:=by
 obtain⟨h0,h1,q,n,h2,h3⟩:=h
 unfold ay6 bv4
 rw [h2,if_neg (by rintro(h|h|h);omega;omega;cases h)]
 simp only
 rw [h3]
 rfl
variable {C':CsC} [C:CsC]
theorem ae4 (h:Sees s g i t):ab7 s g (Zs i tk 0 fl ne ar)= .ok t (Zs i t g fl ne ar):=by
 obtain⟨h0,h1,q,n,h2,h3⟩:=h
 unfold ab7 an3 Zs
 rw [if_neg (by simp)]
 unfold bg9
 simp only
 rw [if_neg (by omega),h2]
 simp only
 rw [h3]
theorem ab4 (hg:g≠0):ab7 s g (Zs i t g fl ne ar)= .ok t (Zs i t g fl ne ar):=by
 unfold ab7 an3 Zs
 rw [if_pos (by simp [hg])]
theorem by1 (h1:g'≠0) (h2:g'≤2) (h3:g≤2) (hs:aA0 t=false):ab7 s g (Zs i t g' fl ne ar)= .ok t (Zs i t g' fl ne ar):=by
 unfold aA0 at hs
 unfold ab7 an3 Zs
 rw [if_pos (by simp [h1,h2,h3,hs])]
theorem ao0:ae7 (Zs i t g fl ne ar)= .ok t (Zs t.till t 0 fl ne ar):=rfl
theorem ca6 {x:ByteArray} (hp:ab7 s 1 (Zs i tk g' fl ne ar)= .ok t (Zs i t g fl ne ar)) (h:punctT t x=false):isP s x (Zs i tk g' fl ne ar)= .ok false (Zs i t g fl ne ar):=by
 unfold isP
 rw [PM.go hp,if_neg (by rw [h];decide)]
 rfl
theorem bk2 {x:ByteArray} (hp:ab7 s 1 (Zs i tk g' fl ne ar)= .ok t (Zs i t g fl ne ar)) (h:punctT t x=true):av1 s x (Zs i tk g' fl ne ar)= .ok t (Zs t.till t 0 fl ne ar):=by
 unfold av1
 rw [PM.go hp,if_pos h]
 rfl
end
structure Nm (t:Tk):Prop where
 kind:t.kind=1
 res:ak5 t.text resW=false
 aw:t.text≠⟨#[97,119,97,105,116]⟩
 asy:t.text≠⟨#[97,115,121,110,99]⟩
 sl:aA0 t=false
theorem bI6 {t:ByteArray} {l:List ByteArray} (h:ak5 t l=false) {x:ByteArray} (hx:ak5 x l=true):t≠x:=by
 rintro rfl
 rw [h] at hx
 cases hx
theorem Nm.ne {t:Tk} (h:Nm t) {x:ByteArray} (hx:ak5 x resW=true):t.text≠x:=bI6 h.res hx
theorem Nm.nameT {t:Tk} (h:Nm t) {x:ByteArray} (hx:ak5 x resW=true):nameT t x=false:=by
 unfold Go.Proofs.YtnobjeelihkjmaaGreatDoor.nameT
 rw [decide_eq_false (h.ne hx),Bool.and_false]
theorem Nm.punctT {t:Tk} (h:Nm t) (x:ByteArray):punctT t x=false:=by
 unfold Go.Proofs.YtnobjeelihkjmaaGreatDoor.punctT
 rw [h.kind]
 rfl
theorem Nm.ident {t:Tk} (h:Nm t) (m:Bool) (fl:Int):ak3 m fl t=true:=by
 unfold ak3 aa2
 rw [if_neg h.aw,h.res,h.kind,decide_eq_true h.aw]
 simp
theorem aE9 {t:Tk} {x:ByteArray} (h:t.text≠x):nameT t x=false:=by
 unfold nameT
 rw [decide_eq_false h,Bool.and_false]
theorem ab5 {t:Tk} {x:ByteArray} (h:t.kind≠5):punctT t x=false:=by
 unfold punctT
 rw [decide_eq_false h,Bool.false_and]
theorem by4 {t:Tk} {x:ByteArray} (h:t.text≠x):punctT t x=false:=by
 unfold punctT
 rw [decide_eq_false h,Bool.and_false]
theorem aj6 {t:Tk} {x:ByteArray} (h:t.kind≠1):nameT t x=false:=by
 unfold nameT
 rw [decide_eq_false h,Bool.false_and]
structure Endy (u:Tk):Prop where
 dot:punctT u ⟨#[46]⟩=false
 brk:punctT u ⟨#[91]⟩=false
 par:punctT u ⟨#[40]⟩=false
 opt:punctT u ⟨#[63,46]⟩=false
 k7:u.kind≠7
 k8:u.kind≠8
 inc:punctT u ⟨#[43,43]⟩=false
 dec:punctT u ⟨#[45,45]⟩=false
section
variable {s:ByteArray} {m:Bool} {g i fl ne ar:Int} {t u tk:Tk}
theorem aK6 (p:Ps):getP p= .ok p p:=rfl
variable {C':CsC} [C:CsC]
theorem bT0 (f:Nat) (h:Nm t) (hg:g=1∨g=2):runQ s m (f+1) (.named t) (Zs i t g fl ne ar)= .ok (ag1 1 t) (Zs t.till t 0 fl ne ar):=by
 show aI2 s m (runQ s m f) t _=_
 have h1:ak5 t.text [⟨#[116,104,105,115]⟩,⟨#[110,117,108,108]⟩,⟨#[116,114,117,101]⟩,⟨#[102,97,108,115,101]⟩]=false:=by
  unfold ak5
  rw [List.any_eq_false]
  intro x hx
  simp only [List.mem_cons,List.not_mem_nil,or_false] at hx
  rcases hx with rfl|rfl|rfl|rfl<;>(rw [decide_eq_false (h.ne (by decide))];decide)
 unfold aI2
 rw [if_neg (by rw [h1];decide),if_neg (h.ne (by decide)),if_neg (h.ne (by decide)),if_neg h.asy]
 unfold am4
 have hp:ab7 s 1 (Zs i t g fl ne ar)= .ok t (Zs i t g fl ne ar):=by1 (by omega) (by omega) (by omega) h.sl
 rw [PM.go hp]
 show(if ak3 m fl t then _ else _:PM Nd) _=_
 rw [if_pos (h.ident m fl),PM.go ao0]
 rfl
theorem bY8 (f:Nat) (h:Nm t) (hg:g=1∨g=2) (calls:Bool):runQ s m (f+3) (.base t calls) (Zs i t g fl ne ar)= .ok (ag1 1 t) (Zs t.till t 0 fl ne ar):=by
 show aA7 (runQ s m (f+2)) t calls _=_
 unfold aA7
 rw [if_neg (by rw [h.nameT (by decide)];decide),if_neg (by rw [h.nameT (by decide)];decide),if_neg (by rw [h.nameT (by decide)];decide)]
 show ai6 (runQ s m (f+1)) t _=_
 have hk:=h.kind
 unfold ai6
 rw [if_neg (by omega),if_neg (by omega),if_neg (by omega),if_pos hk]
 exact bT0 f h hg
theorem bv1 (f:Nat) (n:Nd) (calls tmpl:Bool) (hu:Endy u) (hp:ab7 s 1 (Zs i tk g fl ne ar)= .ok u (Zs i u 1 fl ne ar)):runQ s m (f+1) (.link n calls tmpl) (Zs i tk g fl ne ar)= .ok (n,false) (Zs i u 1 fl ne ar):=by
 show aP8 s (runQ s m f) n calls tmpl _=_
 unfold aP8
 rw [PM.go hp,if_neg (by rw [hu.dot];decide),if_neg (by rw [hu.brk];decide),if_neg (by rw [hu.par];simp),if_neg (by have:=hu.k7;have:=hu.k8;omega)]
 rfl
end
section
variable {s:ByteArray} {p:Nat}
theorem cf7 {c:UInt8} {l:List UInt8} (hd:s.data.toList.drop p=c::l):p<s.size:=by
 have h:=congrArg List.length hd
 rw [List.length_drop,List.length_cons] at h
 show p<s.data.size
 rw [←Array.length_toList]
 omega
theorem bX1 {c:UInt8} {l:List UInt8} (hd:s.data.toList.drop p=c::l):s.data.toList.drop (p+1)=l:=by
 rw [←List.drop_drop,hd]
 rfl
theorem bj6 {a l:List UInt8} (hd:s.data.toList.drop p=a++l):s.data.toList.drop (p+a.length)=l:=by
 rw [←List.drop_drop,hd,List.drop_left]
theorem be9 {a l:List UInt8} (hd:s.data.toList.drop p=a++l) (hp:p≤s.size):p+a.length≤s.size:=by
 have h:=congrArg List.length hd
 rw [List.length_drop,List.length_append] at h
 have h2:s.data.toList.length=s.size:=Array.length_toList
 omega
theorem bj7 {a l:List UInt8} (hd:s.data.toList.drop p=a++l):s.extract p (p+a.length)=⟨a.toArray⟩:=by
 apply aG3
 rw [ByteArray.data_extract,Array.toList_extract,List.extract_eq_take_drop,hd,Nat.add_sub_cancel_left,List.take_left]
def Ink (l:List UInt8):Prop:=at1 l=false∧∀p,0<p→ai0 p l=0
theorem bq7 {l:List UInt8} {line:Bool} (hd:s.data.toList.drop p=l) (hp:p≤s.size) (h:at1 l=false∧ai0 p l=0):btw s p line= .fine p line []:=by
 rw [aO6 s p line hp,hd,if_neg (by rw [h.1];decide),if_pos h.2]
theorem cb5 {g:Int} (hg:g=1∨g=2) {q:Nat} {line:Bool} {kind:Int} {n:Nat} (hb:btw s p false= .fine q line []) (ht:al6 g (s.data.toList.drop q)= .fine kind n):nxt s p g= .fine kind q n line []:=by
 unfold nxt tokT
 rcases hg with rfl|rfl<;>
 ·rw [if_neg (by rintro(h|h|⟨h,_⟩)<;>omega),if_neg (by decide),hb]
  simp only
  rw [if_neg (by decide),if_neg (by decide),if_neg (by decide),ht]
def endT (p:Nat):Tk:=⟨0,⟨#[]⟩,p,p,false⟩
theorem aQ7 {g:Int} (hg:g=1∨g=2) (hd:s.data.toList.drop p= []) (hp:p≤s.size):Sees s g p (endT p):=by
 refine⟨by omega,by omega,p,0,?_,?_⟩
 ·rw [Int.toNat_natCast]
  refine cb5 hg (bq7 hd hp ⟨rfl,?_⟩) ?_
  ·unfold ai0
   rw [if_neg (by decide),if_neg (by decide),if_neg (by simp [Lib.hasPrefix])]
  ·rw [hd]
   rfl
 ·unfold tkOf endT
  have:s.extract p (p+0)=⟨#[]⟩:=bj7 (a:= []) (l:= []) hd
  rw [this]
  simp
end
def bp0 (c:UInt8):Bool:=decide (c.toNat<128) && az1 (c.toNat:Int)
theorem aM9 {l:List UInt8} (hl:an5 false l=false): ∀(a:List UInt8),(∀c ∈ a,bp0 c=true)→ah4 false (a++l)=a.length
 | [],_=>aI7 hl
 |c::a,h=>by
  have hc:=h c (.head _)
  unfold bp0 at hc
  rw [Bool.and_eq_true,decide_eq_true_eq] at hc
  have hg:an5 false (c::(a++l))=true:=by
   unfold an5
   rw [af4 _ _ hc.1,hc.2]
   rfl
  rw [List.cons_append,au4 hg,af4 _ _ hc.1]
  show 1+ah4 false (a++l)=_
  rw [aM9 hl a (fun c hc=>h c (.tail _ hc)),List.length_cons]
  omega
theorem bw2 {c:UInt8} {a l:List UInt8} (hc:c.toNat<128) (hs:ad5 (c.toNat:Int)=true) (ha: ∀c ∈ a,bp0 c=true) (hl:an5 false l=false):an6 false (c::(a++l))=a.length+1:=by
 have hw: ∀x ∈ c::a,bp0 x=true:=by
  intro x hx
  rcases List.mem_cons.1 hx with rfl|hx
  ·unfold bp0 az1
   rw [decide_eq_true hc,hs]
   rfl
  ·exact ha x hx
 unfold an6
 rw [af4 _ _ hc,if_pos ⟨show (0:Int)<1 by decide,hs⟩,←List.cons_append,aM9 hl _ hw,List.length_cons]
@[reducible] def low (c:UInt8):Prop:=97≤c.toNat∧c.toNat≤122
theorem ag4 {c d:UInt8} {l w:List UInt8} (h:c≠d):Lib.hasPrefix (c::l) (d::w)=false:=by
 unfold Lib.hasPrefix
 rw [List.isPrefixOf_cons_cons,beq_eq_false_iff_ne.2 (Ne.symm h),Bool.false_and]
theorem bm4 {g:Int} {c:UInt8} {a l:List UInt8} (hlo:low c) (hs:ad5 (c.toNat:Int)=true) (ha: ∀c ∈ a,bp0 c=true) (hl:an5 false l=false) (hl2:0≤(nx l).2):
  al6 g (c::a++l)= .fine 1 (c::a).length:=by
 obtain⟨h1,h2⟩:=hlo
 have hn: ∀d:UInt8,d.toNat<97→c≠d:=by rintro d hd rfl;omega
 have hdig:ak0 (c::(a++l))=false:=by
  unfold ak0
  rw [decide_eq_false_iff_not]
  omega
 have hw:=bw2 (l:=l) (by omega) hs ha hl
 rw [List.cons_append]
 unfold al6
 rw [if_neg (by simp),if_neg (by rw [ag4 (hn _ (by decide))];decide),if_neg (by rw [ag4 (hn _ (by decide))];decide),if_neg (by rw [hdig,ag4 (hn 46 (by decide))];simp),if_neg (by rw [ag4 (hn _ (by decide)),ag4 (hn _ (by decide))];simp),if_neg (by rw [ag4 (hn _ (by decide))];simp),hw,if_pos (by omega)]
 unfold aft
 rw [show (c::(a++l)).drop (a.length+1)=l by rw [List.drop_succ_cons,List.drop_left],if_neg (by omega),List.length_cons]
theorem bO4 {f:Nat→Bool} {m:Nat} (h:(List.range m).all f=true) (n:Nat) (hn:n<m):f n=true:=List.all_eq_true.1 h n (List.mem_range.2 hn)
theorem bQ8:(List.range 127).all (fun n=>decide (n<33)|| !(as1 (n:Int)||av3 (n:Int)))=true:=by kernel_rfl
theorem bS9:(List.range 127).all (fun n=>decide (n<97∨122<n)||ad5 (n:Int))=true:=by kernel_rfl
theorem ca2 {c:UInt8} {l:List UInt8} (h1:33≤c.toNat) (h2:c.toNat<127) (h3:c≠47) (h4:c≠35):Ink (c::l):=by
 refine⟨?_,fun p hp=> ?_⟩
 ·unfold at1
  rw [af4 _ _ (by omega)]
  show(decide ((0:Int)<1) && (as1 (c.toNat:Int)||av3 (c.toNat:Int)))=false
  have h:=(Bool.or_eq_true _ _).mp (bO4 bQ8 c.toNat h2)
  rw [Bool.not_eq_true',decide_eq_true_eq] at h
  rw [h.resolve_left (by omega),Bool.and_false]
 ·unfold ai0
  rw [if_neg (by rw [ag4 h3];decide),if_neg (by rw [ag4 h3];decide),if_neg (by rw [ag4 h4];simp)]
theorem bv6 {c:UInt8} (h:low c):ad5 (c.toNat:Int)=true:=by
 obtain⟨h1,h2⟩:=h
 have h:=bO4 bS9 c.toNat (by omega)
 simp only [Bool.or_eq_true,decide_eq_true_eq] at h
 exact h.resolve_left (by omega)
structure Opr (o:Tk):Prop where
 op:(decide (o.kind≠5) && !nameT o ⟨#[105,110,115,116,97,110,99,101,111,102]⟩ && !nameT o ⟨#[105,110]⟩)=false
 lo:2≤ab2 o.text
 hi:ab2 o.text≤12
 star:ab2 o.text=12↔o.text=⟨#[42,42]⟩
 e:Endy o
structure Stp (u:Tk):Prop where
 op:(decide (u.kind≠5) && !nameT u ⟨#[105,110,115,116,97,110,99,101,111,102]⟩ && !nameT u ⟨#[105,110]⟩)=true∨ab2 u.text=0
 e:Endy u
section
variable {s:ByteArray}
def Row (s:ByteArray):Int→List (Tk × Tk)→Tk→Prop
 |i,[],e=>Sees s 1 i e
 |i,x::l,e=>Sees s 1 i x.1∧Opr x.1∧Sees s 2 x.1.till x.2∧Nm x.2∧Row s x.2.till l e
def ca8:Tk→List (Tk × Tk)→Tk
 |v,[]=>v
 |_,x::l=>ca8 x.2 l
def bZ7:List (Tk × Tk)→Tk→Tk
 | [],e=>e
 |x::_,_=>x.1
theorem Row.drop {e:Tk} : ∀ {a b:List (Tk × Tk)} {v:Tk},Row s v.till (a++b) e→Row s (ca8 v a).till b e
 | [],_,_,h=>h
 |x::a,_,_,h=>Row.drop (a:=a) (v:=x.2) h.2.2.2.2
theorem Row.head {l:List (Tk × Tk)} {i:Int} {e:Tk} (h:Row s i l e):Sees s 1 i (bZ7 l e):=by
 cases l with
 |nil=>exact h
 |cons x l=>exact h.1
theorem Row.endy {l:List (Tk × Tk)} {i:Int} {e:Tk} (h:Row s i l e) (he:Stp e):Endy (bZ7 l e):=by
 cases l with
 |nil=>exact he.e
 |cons x l=>exact h.2.1.e
variable {m:Bool}
theorem aM7 {i ne ar:Int} {o:Tk} (h:Opr o):ai2 s (Zs i o 1 1 ne ar)= .ok (o,ab2 o.text) (Zs i o 1 1 ne ar):=by
 unfold ai2
 rw [PM.go (ab4 (by decide)),PM.go (aK6 _)]
 have h1:=h.op
 have h2:hasF 1 1=true:=by decide
 show(if (decide (o.kind≠5) && !nameT o ⟨#[105,110,115,116,97,110,99,101,111,102]⟩ && (!nameT o ⟨#[105,110]⟩|| !hasF 1 1))=true then _ else _:PM (Tk × Int)) _=_
 rw [h2,Bool.not_true,Bool.or_false,if_neg (by rw [h1];decide)]
 rfl
theorem aw5 [C:CsC] {i ne ar:Int} {u:Tk} (h:Stp u): ∃r:Tk × Int,r.2=0∧ai2 s (Zs i u 1 1 ne ar)= .ok r (Zs i u 1 1 ne ar):=by
 unfold ai2
 rw [PM.go (ab4 (by decide)),PM.go (aK6 _)]
 have h2:hasF 1 1=true:=by decide
 show∃r:Tk × Int,r.2=0∧(if (decide (u.kind≠5) && !nameT u ⟨#[105,110,115,116,97,110,99,101,111,102]⟩ && (!nameT u ⟨#[105,110]⟩|| !hasF 1 1))=true then _ else _:PM (Tk × Int)) _=_
 rw [h2,Bool.not_true,Bool.or_false]
 rcases h.op with h1|h1
 ·rw [if_pos h1]
  exact⟨_,rfl,rfl⟩
 ·split
  ·exact⟨_,rfl,rfl⟩
  ·exact⟨_,h1,rfl⟩
end
def cb1 (c:UInt8):Bool:=decide (c.toNat<128) && !ad5 (c.toNat:Int) && decide (c≠96∧c≠35∧c≠46∧c≠39∧c≠34∧¬(48≤c.toNat∧c.toNat≤57))
section
variable {s:ByteArray} {m:Bool} {i g fl ne ar:Int} {u v:Tk} {n:Nd} {p:Ps} {f:Nat}
variable {C':CsC} [C:CsC]
theorem bM4 (hb:runQ s m f (.binary 1 false) p= .ok n (Zs i u 1 fl ne ar)) (hk:n.kind≠22) (hq:punctT u ⟨#[63]⟩=false):runQ s m (f+1) .cond p= .ok n (Zs i u 1 fl ne ar):=by
 show aY1 s (runQ s m f) p=_
 unfold aY1
 rw [PM.go hb,if_neg hk,PM.go (ca6 (ab4 (by decide)) hq),if_neg (by decide)]
 rfl
theorem aL6 (hk:n.kind≠22) (ha:ae0 u=false):runQ s m (f+1) (.assigned n) (Zs i u 1 fl ne ar)= .ok n (Zs i u 1 fl ne ar):=by
 show an2 s n _=_
 unfold an2
 rw [if_neg hk,PM.go (ab4 (by decide)),if_neg (by rw [ha];decide)]
 rfl
theorem bg6 {α:Type} {x:PM α} {i':Int} {u':Tk} {g' fl' ar' place:Int} {a:α} (h0:0≤ne) (h1:ne<4000) (hx:x (Zs i u g fl (ne+1) ar)= .ok a (@Zs C' i' u' g' fl' (ne+1) ar')):ag9 place x (Zs i u g fl ne ar)= .ok a (@Zs C' i' u' g' fl' ne ar'):=by
 unfold ag9
 show(if 4000≤ne then _ else _)=_
 rw [if_neg (by omega)]
 show PM.bind x _ (Zs i u g fl (ne+1) ar)=_
 unfold PM.bind
 rw [hx]
 show(if ne+1≤0 then _ else _)=_
 rw [if_neg (by omega)]
 show Res.ok a (@Zs C' _ _ _ _ (ne+1 - 1) _)=_
 rw [Int.add_sub_cancel]
 rfl
theorem aC8 (ha:runQ s m f .assign p= .ok n (Zs i u 1 fl ne ar)) (hc:punctT u ⟨#[44]⟩=false):runQ s m (f+1) .expression p= .ok n (Zs i u 1 fl ne ar):=by
 show ag0 s f (runQ s m f) p=_
 unfold ag0
 rw [PM.go ha,PM.go (ab4 (by decide)),if_neg (by rw [hc];decide)]
 rfl
theorem bZ5 (he:runQ s m f .expression (ps0 m)= .ok n (Zs i u 1 fl ne ar)) (hu:u.kind=0) (hn:ad9 n=true) (hz:aa0 n≤8000):aY9 s m f= .ok n (Zs i u 1 fl ne ar):=by
 have hd:=aY3 n
 unfold aY9 az6 aM3
 rw [PM.go (show _=Res.ok n (Zs i u 1 fl ne ar) by rw [PM.go he,PM.go (ab4 (by decide)),if_pos hu];rfl),if_neg (by rw [hn];decide),if_neg (by omega),if_neg (by omega)]
 rfl
end
section
variable {s:ByteArray} {p:Nat}
def Ink0 (l:List UInt8):Prop:=at1 l=false∧∀p,ai0 p l=0
theorem bR3 {c:UInt8} {l:List UInt8} (h1:33≤c.toNat) (h2:c.toNat<127) (h3:c≠47) (h4:c≠35):Ink0 (c::l):=by
 refine⟨(ca2 h1 h2 h3 h4).1,fun p=> ?_⟩
 unfold ai0
 rw [if_neg (by rw [ag4 h3];decide),if_neg (by rw [ag4 h3];decide),if_neg (by rw [ag4 h4];simp)]
end
theorem aw7 {g:Int} {c:UInt8} {l:List UInt8} {n:Nat} (hc:cb1 c=true) (h47:c≠47) (hp:pct g (c::l)=n) (hn:n≠0):al6 g (c::l)= .fine 5 n:=by
 unfold cb1 at hc
 rw [Bool.and_eq_true,Bool.and_eq_true,decide_eq_true_eq,decide_eq_true_eq,Bool.not_eq_true'] at hc
 obtain⟨⟨h1,h2⟩,h3,h4,h5,h6,h7,h8⟩:=hc
 have hdig:ak0 (c::l)=false:=by
  unfold ak0
  rw [decide_eq_false_iff_not]
  exact h8
 have hname:an6 false (c::l)=0:=by
  unfold an6
  rw [af4 _ _ h1,if_neg]
  rintro⟨_,h⟩
  simp only at h
  rw [h2] at h
  cases h
 unfold al6
 rw [if_neg (by simp),if_neg (by rw [ag4 h3];decide),if_neg (by rw [ag4 h4];decide),if_neg (by rw [hdig,ag4 h5];simp),if_neg (by rw [ag4 h6,ag4 h7];simp),if_neg (by rintro⟨_,h⟩;rw [ag4 h47] at h;cases h),if_neg (by rw [hname];simp),hp,if_pos hn]
theorem by0 {g:Int} {c:UInt8} {l:List UInt8} (h:c≠47):pct g (c::l)=match ak8.find? (aD9 (c::l)) with|some w=>w.length|none=>0:=by
 unfold pct
 rw [if_neg (by rintro⟨_,h1⟩;rw [ag4 h] at h1;cases h1),if_neg (by rintro⟨_,h1⟩;rw [ag4 h] at h1;cases h1)]
 rfl
section
variable {s:ByteArray} {m:Bool} {i g fl ne ar:Int} {u v t d b e:Tk} {n:Nd} {p:Ps} {f:Nat}
def sgB (t:Tk):Bool:=nameT t ⟨#[100,101,108,101,116,101]⟩||nameT t ⟨#[118,111,105,100]⟩||nameT t ⟨#[116,121,112,101,111,102]⟩||punctT t ⟨#[43]⟩||punctT t ⟨#[45]⟩||punctT t ⟨#[126]⟩||punctT t ⟨#[33]⟩
structure SgT (o:Tk):Prop where
 k2:o.kind≠2
 yi:nameT o ⟨#[121,105,101,108,100]⟩=false
 asy:nameT o ⟨#[97,115,121,110,99]⟩=false
 aw:nameT o ⟨#[97,119,97,105,116]⟩=false
 arr:punctT o ⟨#[61,62]⟩=false
def Sg1 (o:Tk):Prop:=sgB o=true∧o.text≠⟨#[43,43]⟩∧o.text≠⟨#[45,45]⟩
def Sg2 (o:Tk):Prop:=sgB o=false∧(punctT o ⟨#[43,43]⟩||punctT o ⟨#[45,45]⟩)=true
def SgR (s:ByteArray) (e:Tk):Int→List Tk→Prop
 |i,[]=> ∃t d b:Tk,Nm t∧Sees s 2 i t∧Sees s 1 i t∧Sees s 1 t.till d∧punctT d ⟨#[46]⟩=true∧Sees s 1 d.till b∧b.kind=1∧Sees s 1 b.till e∧t.text=⟨#[97]⟩∧b.text=⟨#[98]⟩
 |i,o::l=>Sees s 2 i o∧Sees s 1 i o∧SgT o∧(Sg1 o∨(Sg2 o∧l= []))∧SgR s e o.till l
theorem SgR.head {l:List Tk} (h:SgR s e i l): ∃v,Sees s 2 i v∧Sees s 1 i v∧v.kind≠2∧nameT v ⟨#[121,105,101,108,100]⟩=false∧nameT v ⟨#[97,115,121,110,99]⟩=false∧punctT v ⟨#[61,62]⟩=false:=by
 cases l with
 |nil=>
  obtain⟨t,d,b,h1,h2,h3,_⟩:=h
  exact⟨t,h2,h3,by rw [h1.kind];decide,h1.nameT (by decide),aE9 h1.asy,h1.punctT _⟩
 |cons o l=>exact⟨o,h.1,h.2.1,h.2.2.1.k2,h.2.2.1.yi,h.2.2.1.asy,h.2.2.1.arr⟩
theorem bP3 [C:CsC] (ho:runQ s m (f+1) (.operand 1) p= .ok n (Zs i u 1 1 ne ar)) (hk:n.kind≠22) (hu:Stp u):runQ s m (f+2) (.binary 1 false) p= .ok n (Zs i u 1 1 ne ar):=by
 show ae5 s (f+1) (runQ s m (f+1)) 1 false p=_
 unfold ae5
 rw [PM.go ho,if_neg hk]
 obtain⟨r,r1,r2⟩:=aw5 (s:=s) (i:=i) (ne:=ne) (ar:=ar) hu
 unfold ae5.opsL
 rw [PM.go r2,if_pos (.inr r1)]
 rfl
theorem aw4 [C:CsC] (least:Int) (hp:ab7 s 2 p= .ok v (Zs i v g fl ne ar)) (hk:v.kind≠2):runQ s m (f+1) (.operand least) p=runQ s m f .unary (Zs i v g fl ne ar):=by
 show ar4 s (runQ s m f) least p=_
 unfold ar4
 rw [PM.go hp,if_pos hk]
theorem bo2 [C:CsC] (hv:nameT v ⟨#[97,115,121,110,99]⟩=false) (hu:Sees s 1 v.till u) (har:punctT u ⟨#[61,62]⟩=false):ag8.single s m v (Zs i v g fl ne ar)= .ok false (Zs i v g fl ne ar):=by
 unfold ag8.single
 rw [PM.go (aK6 _),if_neg (by rw [hv];decide)]
 show((pure v:PM Tk)>>=_) _=_
 rw [PM.go (show(pure v:PM Tk) (Zs i v g fl ne ar)= .ok v (Zs i v g fl ne ar) from rfl),PM.go (bv5 hu _),if_pos (by rw [har];simp)]
 rfl
theorem aL5 {C':CsC} [C:CsC] {i' g' fl' ar' i2 g2 fl2 ar2:Int} {u' u2:Tk} {n2:Nd} (hy:nameT v ⟨#[121,105,101,108,100]⟩=false) (hv:nameT v ⟨#[97,115,121,110,99]⟩=false) (hp:ab7 s 2 p= .ok v (Zs i v g fl ne ar)) (hu:Sees s 1 v.till u) (har:punctT u ⟨#[61,62]⟩=false) (h0:0≤ne) (h1:ne<4000)
  (hc:runQ s m f .cond (Zs i v g fl (ne+1) v.from')= .ok n (@Zs C' i' u' g' fl' (ne+1) ar')) (ha:runQ s m f (.assigned n) (@Zs C' i' u' g' fl' (ne+1) ar')= .ok n2 (@Zs C' i2 u2 g2 fl2 (ne+1) ar2)):
  runQ s m (f+1) .assign p= .ok n2 (@Zs C' i2 u2 g2 fl2 ne ar2):=by
 show ag8 s m (runQ s m f) p=_
 unfold ag8
 rw [PM.go hp]
 refine bg6 h0 h1 ?_
 rw [PM.go (aK6 _),if_neg (by rw [hy];simp),PM.go (bo2 hv hu har),if_neg (by decide)]
 rw [PM.go (show modP (fun q=> { q with arrow:=v.from' }) (Zs i v g fl (ne+1) ar)= .ok () (Zs i v g fl (ne+1) v.from') from rfl),PM.go hc]
 exact ha
end
section
variable {s:ByteArray} {m:Bool} {i g fl ne ar:Int} {u v t d b e:Tk} {n:Nd} {p:Ps} {f:Nat}
theorem cd6:setF 1 1 0=1:=by first|rfl|decide|kernel_rfl
theorem bC0 {C':CsC} [C:CsC] {α:Type} {x:PM α} {y:α} {i' g' ar':Int} {u':Tk} (hx:x (Zs i u g 1 ne ar)= .ok y (@Zs C' i' u' g' 1 ne ar')):ax3 1 0 x (Zs i u g 1 ne ar)= .ok y (@Zs C' i' u' g' 1 ne ar'):=by
 have e:({ Zs i u g 1 ne ar with flags:=setF (Zs i u g 1 ne ar).flags 1 0 } :Ps)=Zs i u g 1 ne ar:=by
  show(⟨i,u,[],g,[],setF 1 1 0,ne,ar,C.cs⟩:Ps)=_
  rw [cd6]
  rfl
 unfold ax3
 rw [e]
 unfold PM.bind
 rw [hx]
 rfl
def AsR (s:ByteArray) (e:Tk):Int→List (Tk × Tk × Option (Tk × Tk))→Prop
 |i,[]=> ∃v:Tk,Nm v∧v.text=⟨#[118]⟩∧Sees s 2 i v∧Sees s 1 i v∧Sees s 1 v.till e
 |i,(a,o,none)::l=>Nm a∧a.text=⟨#[97]⟩∧Sees s 2 i a∧Sees s 1 a.till o∧Stp o∧punctT o ⟨#[61,62]⟩=false∧punctT o ⟨#[63]⟩=false∧ae0 o=true∧AsR s e o.till l
 |i,(a,o,some (t,d))::l=>Nm a∧a.text=⟨#[99]⟩∧Sees s 2 i a∧Sees s 1 a.till o∧Stp o∧punctT o ⟨#[61,62]⟩=false∧punctT o ⟨#[63]⟩=true∧
   Nm t∧t.text=⟨#[116]⟩∧Sees s 2 o.till t∧Sees s 1 t.till d∧Stp d∧punctT d ⟨#[58]⟩=true∧AsR s e d.till l
theorem AsR.head {l:List (Tk × Tk × Option (Tk × Tk))} (h:AsR s e i l): ∃v,Sees s 2 i v∧Nm v:=by
 match l,h with
 | [],⟨v,h1,_,h2,_⟩=>exact⟨v,h2,h1⟩
 |(a,o,none)::l,⟨h1,_,h2,_⟩=>exact⟨a,h2,h1⟩
 |(a,o,some (t,d))::l,⟨h1,_,h2,_⟩=>exact⟨a,h2,h1⟩
end
section
variable {s:ByteArray} {m:Bool} {i g fl ne ar:Int} {u v t d b e o a c q:Tk} {n:Nd} {p:Ps} {f:Nat}
structure Cls (c:Tk):Prop where
 stp:Stp c
 q:punctT c ⟨#[63]⟩=false
 asg:ae0 c=false
 arr:punctT c ⟨#[61,62]⟩=false
 com:punctT c ⟨#[44]⟩=false
def LkM (s:ByteArray) (i j:Int):Prop:= ∃b:Tk,Sees s 1 i b∧b.kind=1∧b.text=⟨#[109]⟩∧b.till=j
def LkC (s:ByteArray) (i j:Int):Prop:= ∃o a c:Tk,Sees s 1 i o∧punctT o ⟨#[40]⟩=true∧Nm a∧a.text=⟨#[97]⟩∧Sees s 2 o.till a∧Sees s 1 a.till c∧punctT c ⟨#[41]⟩=true∧Cls c∧c.till=j
def LkX (s:ByteArray) (i j:Int):Prop:= ∃o a c:Tk,Sees s 1 i o∧punctT o ⟨#[91]⟩=true∧Nm a∧a.text=⟨#[105]⟩∧Sees s 2 o.till a∧Sees s 1 a.till c∧punctT c ⟨#[93]⟩=true∧Cls c∧c.till=j
def LkO (s:ByteArray) (i:Int) (P:Int→Prop):Prop:= ∃q:Tk,Sees s 1 i q∧punctT q ⟨#[63,46]⟩=true∧P q.till
def LkI (s:ByteArray) (i:Int) (k:Nat) (j:Int):Prop:=match k with
 |0=> ∃d:Tk,Sees s 1 i d∧punctT d ⟨#[46]⟩=true∧LkM s d.till j
 |1=>LkC s i j
 |2=>LkX s i j
 |3=>LkO s i fun h=>LkM s h j
 |4=>LkO s i fun h=>LkC s h j
 |_=>LkO s i fun h=>LkX s h j
def LkR (s:ByteArray) (e:Tk):Int→List Nat→Prop
 |i,[]=>Sees s 1 i e
 |i,k::l=> ∃j,LkI s i k j∧LkR s e j l
theorem LkI.head {k:Nat} {j:Int} (h:LkI s i k j): ∃v,Sees s 1 i v∧v.kind=5:=by
 have key: ∀ {t:Tk} {x:ByteArray},punctT t x=true→t.kind=5:=fun h=>by
  unfold punctT at h
  rw [Bool.and_eq_true,decide_eq_true_eq] at h
  exact h.1
 match k,h with
 |0,⟨d,h,h2,_⟩=>exact⟨d,h,key h2⟩
 |1,⟨d,_,_,h,h2,_⟩=>exact⟨d,h,key h2⟩
 |2,⟨d,_,_,h,h2,_⟩=>exact⟨d,h,key h2⟩
 |3,⟨d,h,h2,_⟩=>exact⟨d,h,key h2⟩
 |4,⟨d,h,h2,_⟩=>exact⟨d,h,key h2⟩
 |_+5,⟨d,h,h2,_⟩=>exact⟨d,h,key h2⟩
theorem LkR.head {l:List Nat} (h:LkR s e i l): ∃v,Sees s 1 i v:=by
 match l,h with
 | [],h=>exact⟨e,h⟩
 |k::l,⟨j,h,_⟩=>obtain⟨v,h,_⟩:=h.head;exact⟨v,h⟩
end
section
variable {s:ByteArray} {m:Bool} {i j g ne ar ar2 c0 k0:Int} {t u v w tk:Tk} {n k:Nd} {p q:Ps} {f:Nat}
structure Opn (c:UInt8) (t:Tk):Prop where
 kind:t.kind=5
 text:t.text=⟨#[c]⟩
theorem Opn.name {c:UInt8} (h:Opn c t) (x:ByteArray):nameT t x=false:=aj6 (by rw [h.kind];decide)
theorem Opn.no {c:UInt8} (h:Opn c t) {x:ByteArray} (hx:(⟨#[c]⟩:ByteArray)≠x):punctT t x=false:=by4 (by rw [h.text];exact hx)
theorem Opn.yes {c:UInt8} (h:Opn c t):punctT t ⟨#[c]⟩=true:=by
 unfold punctT
 rw [h.kind,h.text]
 simp
theorem Opn.slash {c:UInt8} (h:Opn c t) (hc:c≠47):aA0 t=false:=by
 unfold aA0
 rw [h.text]
 exact ag4 hc
theorem br5 (hk:k.kind≠18) (p:Ps):al4 s k p= .ok () p:=by
 unfold al4
 rw [if_neg hk]
 rfl
theorem bY7 {c:UInt8} (hc:c=40∨c=91) (ht:Opn c t) (p:Ps):runQ s m (f+2) (.base t true) p=(if c=40 then runQ s m f (.paren t) p else runQ s m f .array p):=by
 show aA7 (runQ s m (f+1)) t true p=_
 unfold aA7
 rw [if_neg (by rw [ht.name];decide),if_neg (by rw [ht.name];decide),if_neg (by rw [ht.name];decide)]
 show ai6 (runQ s m f) t p=_
 have hk:=ht.kind
 unfold ai6
 rw [if_neg (by omega),if_neg (by omega),if_neg (by omega),if_neg (by omega)]
 rcases hc with rfl|rfl
 ·rw [if_neg (by rw [ht.no (by decide)];decide),if_neg (by rw [ht.no (by decide)];decide),if_pos ht.yes,if_pos rfl]
 ·rw [if_pos ht.yes,if_neg (by decide)]
variable {C':CsC} [C:CsC]
theorem bj1 (hv:punctT v ⟨#[46,46,46]⟩=false) (h:runQ s m f .assign (Zs i v 2 1 ne ar)= .ok k q):runQ s m (f+1) .spread (Zs i v 2 1 ne ar)= .ok k q:=by
 show ax0 s (runQ s m f) _=_
 unfold ax0
 rw [PM.go (ab4 (by decide)),if_neg (by rw [hv];decide)]
 exact h
end
theorem aW1 (q:UInt8): ∀(b l:List UInt8),(∀c ∈ b,c≠q∧c≠10∧c≠13∧c≠92)→sc q (b++q::l)=b.length
 | [],l,_=>by rw [List.nil_append,aJ5,if_pos (.inl rfl)];rfl
 |c::b,l,h=>by
  obtain⟨h1,h2,h3,h4⟩:=h c (.head _)
  rw [List.cons_append,aJ5,if_neg (by rintro(e|e|e)<;>contradiction),if_neg h4,aW1 q b l (fun c hc=>h c (.tail _ hc)),List.length_cons]
  omega
section
variable {s:ByteArray}
theorem bq6 {r:List UInt8} : ∀(gap:List UInt8) (p:Nat) (line:Bool),(∀c ∈ gap,c=32∨c=10)→s.data.toList.drop p=gap++r→∃line',btw s p line=btw s (p+gap.length) line'
 | [],p,line,_,_=>⟨line,rfl⟩
 |c::gap,p,line,h,hd=>by
  have hc:=h c (.head _)
  have hlt:=cf7 (c:=c) (l:=gap++r) hd
  have h1:at1 (c::(gap++r))=true:=by
   unfold at1
   rcases hc with rfl|rfl<;>(rw [af4 _ _ (by decide)];rfl)
  have h2:(nx (c::(gap++r))).2.toNat=1:=by rcases hc with rfl|rfl<;>(rw [af4 _ _ (by decide)];rfl)
  obtain⟨l',e⟩:=bq6 gap (p+1) (line||as1 (nx (c::(gap++r))).1) (fun c hc=>h c (.tail _ hc)) (bX1 hd)
  refine⟨l',?_⟩
  rw [aO6 s p line (by omega),hd,List.cons_append,if_pos h1,h2,e,List.length_cons,show p+1+gap.length=p+(gap.length+1) by omega]
theorem bK1 {gap a l:List UInt8} {kind:Int} {p:Nat} (hgap: ∀c ∈ gap,c=32∨c=10) (hd:s.data.toList.drop p=gap++(a++l)) (hp:p≤s.size) (hi:Ink0 (a++l)) (ht: ∀g:Int,g=1∨g=2→al6 g (a++l)= .fine kind a.length):
  ∃t:Tk,t.kind=kind∧t.text=⟨a.toArray⟩∧t.till=((p+gap.length+a.length:Nat):Int)∧∀g:Int,g=1∨g=2→Sees s g p t:=by
 obtain⟨line,hb⟩:=bq6 gap p false hgap hd
 have hq:=bj6 hd
 have hf:=be9 hd hp
 refine⟨⟨kind,⟨a.toArray⟩,((p+gap.length:Nat):Int),((p+gap.length+a.length:Nat):Int),line⟩,rfl,rfl,rfl,fun g hg=> ?_⟩
 refine⟨by omega,by omega,p+gap.length,a.length,?_,?_⟩
 ·rw [Int.toNat_natCast]
  have hb2:btw s p false= .fine (p+gap.length) line []:=hb.trans (bq7 hq hf ⟨hi.1,hi.2 _⟩)
  have ht2:=ht g hg
  rw [←hq] at ht2
  unfold nxt tokT
  rcases hg with rfl|rfl<;>
  ·rw [if_neg (by rintro(h|h|⟨h,_⟩)<;>omega),if_neg (by decide),hb2]
   simp only
   rw [if_neg (by decide),if_neg (by decide),if_neg (by decide),ht2]
 ·unfold tkOf
  rw [bj7 hq]
end
section
variable {s:ByteArray} {m:Bool} {i j ne ar ar2:Int} {t u v w b o e:Tk} {n r:Nd} {p:Ps} {f:Nat}
theorem bI7 {c:UInt8} (h:Opn c u) (hc:c=59∨c=44∨c=43∨c=41):Endy u:=by
 have hk:=h.kind
 exact⟨h.no (by rcases hc with rfl|rfl|rfl|rfl<;>decide),h.no (by rcases hc with rfl|rfl|rfl|rfl<;>decide),h.no (by rcases hc with rfl|rfl|rfl|rfl<;>decide),h.no (by rcases hc with rfl|rfl|rfl|rfl<;>decide),by omega,by omega,h.no (by rcases hc with rfl|rfl|rfl|rfl<;>decide),h.no (by rcases hc with rfl|rfl|rfl|rfl<;>decide)⟩
theorem bT4 {c:UInt8} (h:Opn c u) (hc:c=59∨c=44):ae0 u=false:=by
 unfold ae0
 rw [h.text]
 rcases hc with rfl|rfl<;>(rw [Bool.and_eq_false_iff];right;decide)
theorem bT5 {c:UInt8} (h:Opn c u) (hc:c=59∨c=44):Stp u:=⟨.inr (by rw [h.text];rcases hc with rfl|rfl<;>decide),bI7 h (by rcases hc with rfl|rfl<;>simp)⟩
theorem aF8 (h:Opn 59 u):Cls u:=⟨bT5 h (.inl rfl),h.no (by decide),bT4 h (.inl rfl),h.no (by decide),h.no (by decide)⟩
structure Tat (s:ByteArray) (p:Nat) (kind:Int) (x:ByteArray) (l:List UInt8) (p':Nat) (t:Tk):Prop where
 kind:t.kind=kind
 text:t.text=x
 till:t.till=(p':Int)
 sees: ∀g:Int,g=1∨g=2→Sees s g p t
 rest:s.data.toList.drop p'=l
 le:p'≤s.size
theorem ax1 {gap a l:List UInt8} {kind:Int} {p:Nat} (hgap: ∀c ∈ gap,c=32∨c=10) (hd:s.data.toList.drop p=gap++(a++l)) (hp:p≤s.size) (hi:Ink0 (a++l)) (ht: ∀g:Int,g=1∨g=2→al6 g (a++l)= .fine kind a.length):
  ∃p' t,Tat s p kind ⟨a.toArray⟩ l p' t:=by
 obtain⟨t,e1,e2,e3,e4⟩:=bK1 hgap hd hp hi ht
 refine⟨_,t,e1,e2,e3,e4,bj6 (bj6 hd),?_⟩
 have h1:=be9 hd hp
 have h2:=be9 (bj6 hd) h1
 exact h2
theorem Tat.opn {c:UInt8} {p p':Nat} {l:List UInt8} (h:Tat s p 5 ⟨#[c]⟩ l p' t):Opn c t:=⟨h.kind,h.text⟩
theorem Tat.go {k:Int} {x:ByteArray} {p p':Nat} {l:List UInt8} (h:Tat s p k x l p' t):t.till=(p':Int):=h.till
end
section
variable {s:ByteArray} {p:Nat} {gap l R:List UInt8}
theorem aZ1 {c:UInt8} {l:List UInt8} (h:33≤c.toNat∧c.toNat<127∧c≠47∧c≠35):Ink0 (c::l):=bR3 h.1 h.2.1 h.2.2.1 h.2.2.2
def GapC (gap:List UInt8):Prop:=gap= []∨gap= [32]
theorem GapC.all {gap:List UInt8} (h:GapC gap): ∀c ∈ gap,c=32∨c=10:=by
 rcases h with rfl|rfl<;>simp
theorem bW6 {w f:List UInt8} {pt:Bool} {c:UInt8} {d:List UInt8} (hg:GapC gap) (h:DecL w pt f) (hx:decX w pt f=c::d) (hc:48≤c.toNat∧c.toNat≤57) (hR:ax6 R) (hd:s.data.toList.drop p=gap++((c::d)++R)) (hp:p≤s.size): ∃p' t,Tat s p 3 ⟨(c::d).toArray⟩ R p' t:=
 ax1 hg.all hd hp (aZ1 ⟨by omega,by omega,by rintro rfl;simp at hc,by rintro rfl;simp at hc⟩) (fun _ _=>aN3 hc (by rw [←hx];exact bv2 h hR) hR)
theorem bW7 {x:UInt8} {h:List UInt8} (hg:GapC gap) (hx:x=120∨x=88) (h0:h≠ []) (hh: ∀c ∈ h,isD 120 c=true) (hR:ax6 R) (hd:s.data.toList.drop p=gap++((48::x::h)++R)) (hp:p≤s.size): ∃p' t,Tat s p 3 ⟨(48::x::h).toArray⟩ R p' t:=
 ax1 hg.all hd hp (aZ1 (by decide)) (fun _ _=>aN3 (by decide) (by have:=bv3 (R:=R) hx h0 hh hR;rw [show (48::x::h)++R=48::x::(h++R) from rfl,this];simp;omega) hR)
end
section
variable {s:ByteArray} {m:Bool} {i j g g' fl ne ar ar2 B:Int} {t u v w a b c d e o tk:Tk} {n k:Nd} {p:Ps} {f:Nat}
structure Ufn (t:Tk):Prop where
 k2:t.kind≠2
 nm: ∀x:ByteArray,x=⟨#[100,101,108,101,116,101]⟩∨x=⟨#[118,111,105,100]⟩∨x=⟨#[116,121,112,101,111,102]⟩∨x=⟨#[97,119,97,105,116]⟩∨x=⟨#[121,105,101,108,100]⟩∨x=⟨#[97,115,121,110,99]⟩→nameT t x=false
 pn: ∀x:ByteArray,x=⟨#[43]⟩∨x=⟨#[45]⟩∨x=⟨#[126]⟩∨x=⟨#[33]⟩∨x=⟨#[43,43]⟩∨x=⟨#[45,45]⟩∨x=⟨#[41]⟩∨x=⟨#[46,46,46]⟩∨x=⟨#[93]⟩∨x=⟨#[44]⟩→punctT t x=false
theorem Ufn.nmT (h:Nm t):Ufn t:=by
 refine⟨by rw [h.kind];decide,fun x hx=> ?_,fun x _=>h.punctT x⟩
 rcases hx with rfl|rfl|rfl|rfl|rfl|rfl
 ·exact h.nameT (by decide)
 ·exact h.nameT (by decide)
 ·exact h.nameT (by decide)
 ·exact aE9 h.aw
 ·exact h.nameT (by decide)
 ·exact aE9 h.asy
theorem Ufn.lit (h:t.kind=3∨t.kind=4∨t.kind=6∨t.kind=7):Ufn t:=
 ⟨by omega,fun _ _=>aj6 (by omega),fun _ _=>ab5 (by omega)⟩
theorem Ufn.opn {x:UInt8} (hc:x=40∨x=123) (h:Opn x t):Ufn t:=by
 refine⟨by rw [h.kind];decide,fun y _=>h.name y,fun y hy=>h.no ?_⟩
 rcases hc with rfl|rfl<;>rcases hy with rfl|rfl|rfl|rfl|rfl|rfl|rfl|rfl|rfl|rfl<;>decide
def Bas (s:ByteArray) (m:Bool) (F:Nat) (t:Tk) (n:Nd) (j:Int) (w:Tk) (B:Int):Prop:=
 ∀i ne ar:Int,0≤ne→ne<B→∃q ar2,runQ s m F (.base t true) (Zs i t 2 1 ne ar)= .ok n q∧ab7 s 1 q= .ok w (Zs j w 1 1 ne ar2)
def Una (s:ByteArray) (m:Bool) (F:Nat) (t:Tk) (n:Nd) (j:Int) (u:Tk) (B:Int):Prop:=
 ∀i ne ar:Int,0≤ne→ne<B→∃ar2,runQ s m F .unary (Zs i t 2 1 ne ar)= .ok n (Zs j u 1 1 ne ar2)
def Asg (s:ByteArray) (m:Bool) (F:Nat) (t:Tk) (n:Nd) (j:Int) (u:Tk) (B:Int):Prop:=
 ∀i ne ar:Int,0≤ne→ne<B→∃ar2,runQ s m F .assign (Zs i t 2 1 ne ar)= .ok n (Zs j u 1 1 ne ar2)
theorem bD3 (F:Nat) (h:t.kind=3∨t.kind=4) (hs:Sees s 1 t.till u):Bas s m (F+2) t (ag1 t.kind t) t.till u B:=by
 intro i ne ar h0 h1
 have k1:t.kind≠1:=by omega
 refine⟨Zs t.till t 0 1 ne ar,ar,?_,ae4 hs⟩
 show aA7 (runQ s m (F+1)) t true _=_
 unfold aA7
 rw [if_neg (by rw [aj6 k1];decide),if_neg (by rw [aj6 k1];decide),if_neg (by rw [aj6 k1];decide)]
 show ai6 (runQ s m F) t _=_
 unfold ai6
 rw [if_pos h,PM.go ao0]
 rfl
theorem bM0 (F:Nat) (h:Nm t) (hs:Sees s 1 t.till u):Bas s m (F+3) t (ag1 1 t) t.till u B:=
 fun _ ne ar _ _=>⟨Zs t.till t 0 1 ne ar,ar,bY8 F h (.inr rfl) true,ae4 hs⟩
theorem bD0 {F:Nat} {C':CsC} (_hv:Sees s 2 i v) (hf:Ufn v) (hx:runQ s m F .assign (Zs i v 2 1 ne ar)= .ok k (@Zs C' j u 1 1 ne ar2)) (hk:k.kind≠18) (hu:Opn 41 u):
  runQ s m (F+2) (.arguments g) (Zs i tk 0 1 ne ar)= .ok (.mk 36 ⟨#[]⟩ [k] g u.till) (@Zs C' u.till u 0 1 ne ar2):=by
 have hone:(if 4194304<([]:List Nd).length then outP else do
   let k←runQ s m (F+1) .spread
   al4 s k
   return ([]:List Nd)++ [k]:PM (List Nd)) (Zs i v 2 1 ne ar)= .ok [k] (@Zs C' j u 1 1 ne ar2):=by
  rw [if_neg (by decide),PM.go (bj1 (hf.pn _ (by simp)) hx),PM.go (br5 hk _)]
  rfl
 have hl:ao8 s ⟨#[41]⟩ 2 (fun kids=>if 4194304<kids.length then outP else do
   let k←runQ s m (F+1) .spread
   al4 s k
   return kids++ [k]) (F+1) ([]:List Nd) false (Zs i tk 0 1 ne ar)= .ok ([k],false) (@Zs C' u.till u 0 1 ne ar2):=by
  unfold ao8
  rw [PM.go (ae4 _hv),if_neg (by rw [hf.pn _ (by simp)];decide),PM.go hone,PM.go (ab4 (C:=C') (by decide)),if_pos hu.yes,PM.go (ao0 (C:=C'))]
  rfl
 show ai3 s (F+1) (runQ s m (F+1)) g _=_
 unfold ai3
 rw [PM.go (bC0 hl)]
 rfl
theorem bP1 {F:Nat} (ht:Opn 40 t) (hv:Sees s 2 t.till v) (hf:Ufn v) (hx:Asg s m F v k j u B) (hk:k.kind≠18) (hj:k.till=j) (hju:Sees s 1 j u) (hu:Opn 41 u) (hw:Sees s 1 u.till w) (hwa:punctT w ⟨#[61,62]⟩=false):
  Bas s m (F+5) t (.mk 26 ⟨#[]⟩ [k] t.from' u.till) u.till w B:=by
 intro i ne ar h0 h1
 obtain⟨ar2,hx⟩:=hx t.till ne ar h0 h1
 have hb:=bY7 (s:=s) (m:=m) (f:=F+3) (.inl rfl) ht (Zs i t 2 1 ne ar)
 rw [if_pos rfl] at hb
 have ha:runQ s m (F+2) (.arguments t.from') (Zs t.till t 0 1 ne ar)= .ok (.mk 36 ⟨#[]⟩ [k] t.from' u.till) (Zs u.till u 0 1 ne ar2):=bD0 hv hf hx hk hu
 have hb2: ∀q:Ps,al0 s (.mk 36 ⟨#[]⟩ [k] t.from' u.till) q= .ok false q:=by
  intro q
  unfold al0
  rw [if_neg (show¬(4194304<(Nd.mk 36 ⟨#[]⟩ [k] t.from' u.till).kids.length) from by show¬(4194304<1);decide)]
  show(ay6 s k.till>>=_) _=_
  rw [hj,PM.go (bv5 hju _),hu.no (by decide)]
  rfl
 have hany: ¬(([k].isEmpty|| [k].any (fun k=>decide (k.kind=18)))=true):=by
  rw [List.any_cons,List.any_nil,decide_eq_false hk];simp
 by_cases har:t.from'=ar
 ·refine⟨Zs u.till w 1 1 ne ar2,ar2,?_,ab4 (by decide)⟩
  rw [hb]
  show az0 s (runQ s m (F+2)) t _=_
  unfold az0
  rw [PM.go (aK6 _),PM.go ao0,PM.go ha]
  have hp:(if t.from'=(Zs i t 2 1 ne ar).arrow then do
    let next←ab7 s 1
    return (punctT next ⟨#[61,62]⟩ && !next.line)
   else return false:PM Bool) (Zs u.till u 0 1 ne ar2)= .ok false (Zs u.till w 1 1 ne ar2):=by
   rw [if_pos (show t.from'=(Zs i t 2 1 ne ar).arrow from har),PM.go (ae4 hw),hwa]
   rfl
  rw [PM.go hp,if_neg (by decide)]
  unfold bi1
  rw [if_neg (by exact hany),PM.go (hb2 _),if_neg (by decide)]
  rfl
 ·refine⟨Zs u.till u 0 1 ne ar2,ar2,?_,ae4 hw⟩
  rw [hb]
  show az0 s (runQ s m (F+2)) t _=_
  unfold az0
  rw [PM.go (aK6 _),PM.go ao0,PM.go ha]
  have hp:(if t.from'=(Zs i t 2 1 ne ar).arrow then do
    let next←ab7 s 1
    return (punctT next ⟨#[61,62]⟩ && !next.line)
   else return false:PM Bool) (Zs u.till u 0 1 ne ar2)= .ok false (Zs u.till u 0 1 ne ar2):=by
   rw [if_neg (show¬t.from'=(Zs i t 2 1 ne ar).arrow from har)]
   rfl
  rw [PM.go hp,if_neg (by decide)]
  unfold bi1
  rw [if_neg (by exact hany),PM.go (hb2 _),if_neg (by decide)]
  rfl
theorem aK1 {F:Nat} (hf:Ufn t) (hk:n.kind≠22) (hu:Endy u) (hl:runQ s m F .leftHand (Zs i t 2 1 ne ar)= .ok n (Zs j u 1 1 ne ar2)):runQ s m (F+1) .unary (Zs i t 2 1 ne ar)= .ok n (Zs j u 1 1 ne ar2):=by
 show aK2 s (runQ s m F) _=_
 unfold aK2
 rw [PM.go (ab4 (by decide)),if_neg (by rw [hf.nm _ (by simp),hf.nm _ (by simp),hf.nm _ (by simp),hf.pn _ (by simp),hf.pn _ (by simp),hf.pn _ (by simp),hf.pn _ (by simp)];decide),PM.go (aK6 _),if_neg (by rw [hf.nm _ (by simp)];simp),if_neg (by rw [hf.pn _ (by simp),hf.pn _ (by simp)];decide),PM.go hl,if_neg hk,PM.go (ab4 (by decide)),if_neg (by rw [hu.inc,hu.dec];simp)]
 rfl
theorem au7 {F:Nat} (hb:Bas s m (F+1) t n j u B) (hf:Ufn t) (hk:n.kind≠22) (ha: ¬(n.kind=1∧n.text=⟨#[97,115,121,110,99]⟩)) (hu:Endy u):Una s m (F+3) t n j u B:=by
 intro i ne ar h0 h1
 obtain⟨q,ar2,h2,h3⟩:=hb i ne ar h0 h1
 refine⟨ar2,aK1 hf hk hu ?_⟩
 show af1 s (F+1) (runQ s m (F+1)) _=_
 unfold af1
 rw [PM.go (ab4 (by decide)),PM.go (aK6 _)]
 show(runQ s m (F+1) (.base t true)>>=_) _=_
 rw [PM.go h2,if_neg hk,if_neg (by rintro h;apply ha;revert h;simp;exact fun _ x y=>⟨x,y⟩)]
 unfold af1.linkL
 rw [PM.go h3,if_neg (by rw [hu.opt];decide),PM.go (bv1 F n true true hu (ab4 (by decide))),if_neg (show¬((false:Bool)=true) by decide)]
 rfl
end
section
variable {s:ByteArray} {m:Bool} {i j g g' fl ne ar ar2 B:Int} {t u v w a b c d e o tk:Tk} {n k:Nd} {p:Ps} {f:Nat}
theorem Bas.mono {F:Nat} {B':Int} (h:Bas s m F t n j u B) (hb:B'≤B):Bas s m F t n j u B':=fun i ne ar h0 h1=>h i ne ar h0 (by omega)
theorem Una.mono {F:Nat} {B':Int} (h:Una s m F t n j u B) (hb:B'≤B):Una s m F t n j u B':=fun i ne ar h0 h1=>h i ne ar h0 (by omega)
theorem Asg.mono {F:Nat} {B':Int} (h:Asg s m F t n j u B) (hb:B'≤B):Asg s m F t n j u B':=fun i ne ar h0 h1=>h i ne ar h0 (by omega)
theorem bx2 (h:Opn 43 u):Opr u:=by
 have hk:=h.kind
 refine⟨by rw [decide_eq_false (by omega)];rfl,by rw [h.text];decide,by rw [h.text];decide,by rw [h.text];decide,?_⟩
 exact⟨h.no (by decide),h.no (by decide),h.no (by decide),h.no (by decide),by omega,by omega,h.no (by decide),h.no (by decide)⟩
def Aft (u:Tk):Prop:=Opn 43 u∨Stp u
theorem Aft.endy (h:Aft u):Endy u:=by
 rcases h with h|h
 ·exact(bx2 h).e
 ·exact h.e
theorem bq3 {F:Nat} (hu:Una s m F t n j u B) (hs:Sees s 2 i t) (hk2:t.kind≠2) (h22:n.kind≠22) (ha:Aft u) (h0:0≤ne) (h1:ne<B):
  ∃ar2,runQ s m (F+2) (.binary (ab2 ⟨#[43]⟩+1) false) (Zs i tk 0 1 ne ar)= .ok n (Zs j u 1 1 ne ar2):=by
 obtain⟨ar2,h2⟩:=hu i ne ar h0 h1
 refine⟨ar2,?_⟩
 show ae5 s (F+1) (runQ s m (F+1)) (ab2 ⟨#[43]⟩+1) false _=_
 unfold ae5
 rw [PM.go ((aw4 (f:=F) _ (ae4 hs) hk2).trans h2),if_neg h22]
 unfold ae5.opsL
 rcases ha with ha|ha
 ·rw [PM.go (aM7 (bx2 ha)),if_pos (.inl (by rw [ha.text];show ab2 ⟨#[43]⟩<ab2 ⟨#[43]⟩+1;decide))]
  rfl
 ·obtain⟨r,r1,r2⟩:=aw5 (s:=s) (i:=j) (ne:=ne) (ar:=ar2) ha
  rw [PM.go r2,if_pos (.inr r1)]
  rfl
theorem bI8 {F g0:Nat} {x:Nd} (ho:Opn 43 o) (hu:Una s m F t n j u B) (hs:Sees s 2 o.till t) (hk2:t.kind≠2) (h22:n.kind≠22) (ha:Aft u) (h0:0≤ne) (h1:ne<B):
  ∃ar2,ae5.opsL s (runQ s m (F+2)) 1 false (g0+1) x (Zs i o 1 1 ne ar)=ae5.opsL s (runQ s m (F+2)) 1 false g0 (.mk 29 ⟨#[43]⟩ [x,n] x.from' j) (Zs j u 1 1 ne ar2):=by
 obtain⟨ar2,h2⟩:=bq3 (tk:=o) (ar:=ar) hu hs hk2 h22 ha h0 h1
 have hl1:(1:Int)≤ab2 ⟨#[43]⟩:=by decide
 have htx:=ho.text
 refine⟨ar2,?_⟩
 rw [ae5.opsL]
 rw [PM.go (aM7 (bx2 ho)),if_neg (by rw [show ((o,ab2 o.text):Tk × Int).2=ab2 o.text from rfl,htx];omega),if_neg (by show¬(_=true);rw [show ((o,ab2 o.text):Tk × Int).1=o from rfl,htx];simp),PM.go ao0]
 have hd:(if ((o,ab2 o.text):Tk × Int).1.text=⟨#[42,42]⟩ then do
    let u←ab7 s 2
    ag9 u.from' (runQ s m (F+2) (.binary ((o,ab2 o.text):Tk × Int).2 false))
   else runQ s m (F+2) (.binary (((o,ab2 o.text):Tk × Int).2+1) (decide (((o,ab2 o.text):Tk × Int).1.text=⟨#[63,63]⟩))):PM Nd) (Zs o.till o 0 1 ne ar)= .ok n (Zs j u 1 1 ne ar2):=by
  rw [if_neg (by show¬(o.text=_);rw [htx];decide)]
  show runQ s m (F+2) (.binary (ab2 o.text+1) (decide (o.text=⟨#[63,63]⟩))) _=_
  rw [htx]
  exact h2
 rw [PM.go hd]
 show ae5.opsL s (runQ s m (F+2)) 1 false g0 (.mk 29 o.text [x,n] x.from' j) (Zs j u 1 1 ne ar2)=_
 rw [htx]
theorem bT6 {F g0:Nat} {x:Nd} (hu:Stp u):ae5.opsL s (runQ s m F) 1 false (g0+1) x (Zs i u 1 1 ne ar)= .ok x (Zs i u 1 1 ne ar):=by
 obtain⟨r,r1,r2⟩:=aw5 (s:=s) (i:=i) (ne:=ne) (ar:=ar) hu
 unfold ae5.opsL
 rw [PM.go r2,if_pos (.inr r1)]
 rfl
theorem aL4 {F:Nat} (hf:Ufn t) (hk:n.kind≠22) (hq:punctT u ⟨#[63]⟩=false) (hasg:ae0 u=false) (hv:Sees s 1 t.till v) (hvr:punctT v ⟨#[61,62]⟩=false) (hb: ∀i ne ar:Int,0≤ne→ne<B→∃ar2,runQ s m F (.binary 1 false) (Zs i t 2 1 ne ar)= .ok n (Zs j u 1 1 ne ar2)) (hB:B≤4000):Asg s m (F+2) t n j u (B - 1):=by
 intro i ne ar h0 h1
 obtain⟨ar2,h2⟩:=hb i (ne+1) t.from' (by omega) (by omega)
 exact⟨ar2,aL5 (f:=F+1) (hf.nm _ (by simp)) (hf.nm _ (by simp)) (ab4 (by decide)) hv hvr h0 (by omega) (bM4 h2 hk hq) (aL6 hk hasg)⟩
structure Cl3 (u:Tk):Prop where
 stp:Stp u
 q:punctT u ⟨#[63]⟩=false
 asg:ae0 u=false
 arr:punctT u ⟨#[61,62]⟩=false
theorem br2 {x:UInt8} (h:Opn x u) (hx:x=41∨x=44∨x=125):Cl3 u:=by
 have hk:=h.kind
 refine⟨⟨.inr (by rw [h.text];rcases hx with rfl|rfl|rfl<;>decide),h.no ?_,h.no ?_,h.no ?_,h.no ?_,by omega,by omega,h.no ?_,h.no ?_⟩,h.no ?_,?_,h.no ?_⟩
 case refine_8=>
  unfold ae0
  rw [h.text]
  rcases hx with rfl|rfl|rfl<;>(rw [Bool.and_eq_false_iff];right;decide)
 all_goals rcases hx with rfl|rfl|rfl<;>decide
theorem br1 (h0:u.kind=0):Cl3 u:=by
 have h5:u.kind≠5:=by omega
 have h1:u.kind≠1:=by omega
 refine⟨⟨.inl (by rw [decide_eq_true h5,aj6 h1,aj6 h1];rfl),ab5 h5,ab5 h5,ab5 h5,ab5 h5,by omega,by omega,ab5 h5,ab5 h5⟩,ab5 h5,?_,ab5 h5⟩
 unfold ae0
 rw [decide_eq_false h5]
 rfl
theorem bp9 {F:Nat} (h:Una s m (F+1) t n j u B) (hf:Ufn t) (hk:n.kind≠22) (hu:Cl3 u) (hv:Sees s 1 t.till v) (hvr:punctT v ⟨#[61,62]⟩=false) (hB:B≤4000):Asg s m (F+5) t n j u (B - 1):=by
 refine aL4 (F:=F+3) hf hk hu.q hu.asg hv hvr (fun i ne ar h0 h1=> ?_) hB
 obtain⟨ar2,h2⟩:=h i ne ar h0 h1
 exact⟨ar2,bP3 (f:=F+1) ((aw4 (f:=F+1) 1 (ab4 (by decide)) hf.k2).trans h2) hk hu.stp⟩
end
def lfN (k:Int) (t:ByteArray):Nd:= .mk k t [] 0 0
section
variable {s:ByteArray} {m:Bool} {i j ne ar B:Int} {t u v w o c:Tk} {n k:Nd} {p q p':Nat} {R r:List UInt8} {x:UInt8}
def StP (R:List UInt8):Prop:=R= []∨∃x r,R=x::r∧(x=32∨x=41)
theorem StP.num (h:StP R):ax6 R:=by
 rcases h with rfl|⟨x,r,rfl,h⟩
 ·exact .inl rfl
 ·exact .of r (by rcases h with h|h<;>simp [h])
def Pc (s:ByteArray) (m:Bool) (F:Nat) (p:Nat) (R:List UInt8) (N:Nd):Prop:=
 ∃t n,∃q:Nat,Sees s 2 p t∧Ufn t∧s.data.toList.drop q=R∧q≤s.size∧(∀u,Sees s 1 q u→Endy u→punctT u ⟨#[61,62]⟩=false→Una s m F t n q u 3880)∧ab0 n=N∧n.kind≠22∧n.kind≠18∧ad9 n=true∧aa0 n≤12
theorem ap5 (K:Int) (t:Tk) (hK:K≠26):ab0 (ag1 K t)=lfN K t.text:=by
 unfold ag1
 rw [ab0,if_neg hK,ab9]
 rfl
theorem bs9 (h:x=32∨x=40∨x=41∨x=44∨x=125) (l:List UInt8):an5 false (x::l)=false∧0≤(nx (x::l)).2:=by
 have hlow:x.toNat<128:=by rcases h with rfl|rfl|rfl|rfl|rfl<;>decide
 have hp:az1 ((x.toNat:Nat):Int)=false:=by rcases h with rfl|rfl|rfl|rfl|rfl<;>kernel_rfl
 refine⟨?_,by rw [af4 _ _ hlow];exact(show(0:Int)≤1 by decide)⟩
 unfold an5
 rw [af4 _ _ hlow]
 simp only [hp,Bool.false_and,Bool.or_false,Bool.and_false]
theorem be8 {gap:List UInt8} (hg:GapC gap) (hx:low x) (hl:an5 false R=false∧0≤(nx R).2) (hd:s.data.toList.drop p=gap++(x::R)) (hp:p≤s.size): ∃p' t,Tat s p 1 ⟨#[x]⟩ R p' t:=
 ax1 (a:= [x]) hg.all hd hp (aZ1 ⟨by have:=hx.1;omega,by have:=hx.2;omega,by rintro rfl;exact absurd hx (by decide),by rintro rfl;exact absurd hx (by decide)⟩) (fun _ _=>bm4 (a:= []) hx (bv6 hx) (by simp) hl.1 hl.2)
theorem aC1 {gap:List UInt8} (hg:GapC gap) (hx:x=40∨x=41∨x=44∨x=123∨x=125) (hd:s.data.toList.drop p=gap++(x::R)) (hp:p≤s.size): ∃p' t,Tat s p 5 ⟨#[x]⟩ R p' t:=
 ax1 (a:= [x]) hg.all hd hp (by rcases hx with rfl|rfl|rfl|rfl|rfl<;>exact aZ1 (by decide)) (fun _ _=>by rcases hx with rfl|rfl|rfl|rfl|rfl<;>exact aw7 (by decide) (by decide) ((by0 (by decide)).trans rfl) (show(1:Nat)≠0 by decide))
theorem bB3 {gap:List UInt8} (hg:GapC gap) (hd:s.data.toList.drop p=gap++(43::32::R)) (hp:p≤s.size): ∃p' t,Tat s p 5 ⟨#[43]⟩ (32::R) p' t:=
 ax1 (a:= [43]) hg.all hd hp (aZ1 (by decide)) (fun _ _=>aw7 (by decide) (by decide) ((by0 (by decide)).trans rfl) (show(1:Nat)≠0 by decide))
theorem nm_l {z:ByteArray} (h:Tat s p 1 z R q t) (hd:(ak5 z resW||decide (z=⟨#[97,119,97,105,116]⟩)||decide (z=⟨#[97,115,121,110,99]⟩)||Lib.hasPrefix z.data.toList [47])=false):Nm t:=by
 obtain rfl:=h.text
 rw [Bool.or_eq_false_iff,Bool.or_eq_false_iff,Bool.or_eq_false_iff,decide_eq_false_iff_not,decide_eq_false_iff_not] at hd
 exact⟨h.kind,hd.1.1.1,hd.1.1.2,hd.1.2,hd.2⟩
theorem cc2 {F:Nat} {N:Nd} (hs:Sees s 2 p t) (hf:Ufn t) (hq:s.data.toList.drop q=R) (hqs:q≤s.size) (hb: ∀u,Sees s 1 q u→punctT u ⟨#[61,62]⟩=false→Bas s m (F+1) t n q u 3890) (hN:ab0 n=N) (h22:n.kind≠22) (h18:n.kind≠18) (ha: ¬(n.kind=1∧n.text=⟨#[97,115,121,110,99]⟩)) (hp:ad9 n=true) (hz:aa0 n≤12):Pc s m (F+3) p R N:=
 ⟨t,n,q,hs,hf,hq,hqs,fun u hu he har=>au7 ((hb u hu har).mono (by decide)) hf h22 ha he,hN,h22,h18,hp,hz⟩
def Ac (s:ByteArray) (m:Bool) (F:Nat) (p:Nat) (x:UInt8) (r:List UInt8) (N:Nd) (B:Int) (Z:Nat):Prop:=
 ∃v k u,∃q q':Nat,Sees s 2 p v∧(∃v',Sees s 1 p v'∧punctT v' ⟨#[61,62]⟩=false)∧Ufn v∧(x=41∨aA0 v=false)∧Tat s q 5 ⟨#[x]⟩ r q' u∧Asg s m F v k q u B∧ab0 k=N∧k.kind≠18∧k.till=(q:Int)∧ad9 k=true∧aa0 k≤Z
theorem bp6 {F Z q':Nat} {N:Nd} (hs:Sees s 2 p t) (hs1: ∃v',Sees s 1 p v'∧punctT v' ⟨#[61,62]⟩=false) (hf:Ufn t) (hsl:x=41∨aA0 t=false) (hv:Sees s 1 t.till v) (hvr:punctT v ⟨#[61,62]⟩=false) (hu:Tat s q 5 ⟨#[x]⟩ r q' u) (hx:x=41∨x=44∨x=125) (hB:B≤3990) (hb:Sees s 1 q u→punctT u ⟨#[61,62]⟩=false→Bas s m (F+1) t n q u (B+1)) (hN:ab0 n=N) (h22:n.kind≠22) (h18:n.kind≠18) (ha: ¬(n.kind=1∧n.text=⟨#[97,115,121,110,99]⟩)) (hnt:n.till=(q:Int)) (hp:ad9 n=true) (hz:aa0 n≤Z):Ac s m (F+7) p x r N B Z:=by
 have hus:=hu.sees 1 (.inl rfl)
 have hc:=br2 hu.opn hx
 have hasg:=bp9 (F:=F+2) (au7 (hb hus hc.arr) hf h22 ha hc.stp.e) hf h22 hc hv hvr (by omega)
 rw [Int.add_sub_cancel] at hasg
 exact⟨t,n,u,q,q',hs,hs1,hf,hsl,hu,hasg,hN,h18,hnt,hp,hz⟩
theorem aR1 {x:UInt8} (hx:x=41∨x=44∨x=125) (hd:s.data.toList.drop q=x::r) (hqs:q≤s.size): ∃q' u,Tat s q 5 ⟨#[x]⟩ r q' u:=
 aC1 (gap:= []) (.inl rfl) (by rcases hx with h|h|h<;>simp [h]) hd hqs
theorem Ufn.pn1 {k:Int} {y:ByteArray} {L:List UInt8} (h:Tat s p k y L p' t) (hk:k≠5):punctT t ⟨#[61,62]⟩=false:=ab5 (by rw [h.kind];exact hk)
theorem bL8 {F Z:Nat} {k:Int} {y:ByteArray} {N:Nd} (ht:Tat s p k y (x::r) q t) (hk:k≠5) (hf:Ufn t) (hsl:x=41∨aA0 t=false) (hx:x=41∨x=44∨x=125) (hB:B≤3990) (hb: ∀u,Sees s 1 t.till u→Bas s m (F+1) t n t.till u (B+1)) (hN:ab0 n=N) (h22:n.kind≠22) (h18:n.kind≠18) (ha: ¬(n.kind=1∧n.text=⟨#[97,115,121,110,99]⟩)) (hnt:n.till=t.till) (hp:ad9 n=true) (hz:aa0 n≤Z):Ac s m (F+7) p x r N B Z:=by
 obtain⟨q',u,hu⟩:=aR1 hx ht.rest ht.le
 have hus:=hu.sees 1 (.inl rfl)
 rw [ht.till] at hb hnt
 exact bp6 (ht.sees 2 (.inr rfl)) ⟨t,ht.sees 1 (.inl rfl),Ufn.pn1 ht hk⟩ hf hsl (by rw [ht.till];exact hus) (br2 hu.opn hx).arr hu hx hB (fun h _=>hb u h) hN h22 h18 ha hnt hp hz
theorem bD2 {N:Nd} {y z:Int} (h:ab0 k=N):ab0 (.mk 26 ⟨#[]⟩ [k] y z)=N:=by
 rw [ab0,if_pos rfl]
 exact h
theorem bx5 {F Z:Nat} {N:Nd} {L:List UInt8} (ht:Tat s p 5 ⟨#[40]⟩ L p' t) (h:Ac s m F p' 41 R N B Z):
  ∃n,∃q:Nat,s.data.toList.drop q=R∧q≤s.size∧(∀w,Sees s 1 q w→punctT w ⟨#[61,62]⟩=false→Bas s m (F+5) t n q w B)∧ab0 n=N∧n.kind=26∧n.till=(q:Int)∧ad9 n=true∧aa0 n≤Z+1:=by
 obtain⟨v,k,u,q0,q,h1,_,h2,_,h3,h4,h5,h6,h7,h8,h9⟩:=h
 have h3t:=h3.till
 refine⟨.mk 26 ⟨#[]⟩ [k] t.from' u.till,q,h3.rest,h3.le,fun w hw hwa=> ?_,bD2 h5,rfl,h3t,?_,?_⟩
 ·have:=bP1 ht.opn (by rw [ht.till];exact h1) h2 h4 h6 h7 (h3.sees 1 (.inl rfl)) h3.opn (by rw [h3t];exact hw) hwa
  rw [h3t] at this⊢
  exact this
 ·rw [ad9,ab6,ab6,h8]
  rfl
 ·rw [aa0,aa4,aa4]
  omega
theorem bX8 {F Z:Nat} {N:Nd} {L:List UInt8} (ht:Tat s p 5 ⟨#[40]⟩ L p' t) (h:Ac s m F p' 41 (x::r) N (B+1) Z) (hx:x=41∨x=44∨x=125) (hB:B≤3990):Ac s m (F+11) p x r N B (Z+1):=by
 have h0:=h
 obtain⟨_,_,_,_,_,_,⟨v',hv1,hv2⟩,_⟩:=h0
 obtain⟨n,q,h1,h2,h3,h4,h5,h6,h7,h8⟩:=bx5 ht h
 obtain⟨q',u,hu⟩:=aR1 hx h1 h2
 exact bp6 (F:=F+4) (ht.sees 2 (.inr rfl)) ⟨t,ht.sees 1 (.inl rfl),ht.opn.no (by decide)⟩ (Ufn.opn (.inl rfl) ht.opn) (.inr (ht.opn.slash (by decide))) (by rw [ht.till];exact hv1) hv2 hu hx hB (fun ha hb=>h3 u ha hb) h4 (by rw [h5];decide) (by rw [h5];decide) (by rw [h5];simp) h6 h7 h8
end
section
variable {s:ByteArray} {p:Nat} {gap R l:List UInt8} {q:UInt8} {b:List UInt8}
theorem cd5 {e:UInt8} (hq:q=39∨q=34) (he:e≠13) (hb: ∀c ∈ b,c≠q∧c≠10∧c≠13∧c≠92):sc q ((92::e::b)++q::l)=(92::e::b).length:=by
 show sc q (92::e::(b++q::l))=_
 rw [aJ5,if_neg (by rcases hq with rfl|rfl<;>decide),if_pos rfl,if_neg (by rw [ag4 he];decide)]
 show 2+sc q (b++q::l)=_
 rw [aW1 q b l hb]
 simp only [List.length_cons]
 omega
theorem bj4 (hq:q=39∨q=34) (hg:GapC gap) (hb:sc q (b++q::R)=b.length) (hs:strC (q::(b++ [q]))=(true,0)) (hd:s.data.toList.drop p=gap++((q::(b++ [q]))++R)) (hp:p≤s.size): ∃p' t,Tat s p 4 ⟨(q::(b++ [q])).toArray⟩ R p' t:=by
 refine ax1 hg.all hd hp (aZ1 (by rcases hq with rfl|rfl<;>decide)) (fun g _=> ?_)
 have e:(q::(b++ [q]))++R=q::(b++q::R):=by simp
 have e1:txtL (q::(b++q::R))=2+b.length:=by
  show(if sc q (b++q::R)<(b++q::R).length∧((b++q::R).drop (sc q (b++q::R))).head? =some q then 2+sc q (b++q::R) else min (1+sc q (b++q::R)) ((b++q::R).length+1))=_
  rw [hb,if_pos ⟨by simp,by simp⟩]
 have e2:(q::(b++q::R)).take (2+b.length)=q::(b++ [q]):=by
  rw [show 2+b.length=(b.length+1)+1 by omega,List.take_succ_cons,List.take_append]
  simp
  exact List.take_of_length_le (by omega)
 have h:txt (q::(b++q::R))= .fine 4 (b.length+2):=by
  unfold txt
  rw [e1,e2,hs,if_pos rfl,Nat.add_comm]
 rw [e]
 unfold al6
 have hn: ∀d:UInt8,d≠39→d≠34→q≠d:=by rcases hq with rfl|rfl<;>intro d h1 h2<;>exact fun e=>by subst e;contradiction
 have hd:ak0 (q::(b++q::R))=false:=by rcases hq with rfl|rfl<;>rfl
 rw [if_neg (by simp),if_neg (by rw [ag4 (hn _ (by decide) (by decide))];decide),if_neg (by rw [ag4 (hn _ (by decide) (by decide))];decide),if_neg (by rw [hd,ag4 (hn 46 (by decide) (by decide))];simp),if_pos (by rcases hq with rfl|rfl<;>simp [Lib.hasPrefix]),h]
 simp
end
section
variable {s:ByteArray} {m:Bool} {p:Nat} {gap R r:List UInt8} {x:UInt8}
theorem cb0 (hx:x=32∨x=40∨x=41∨x=44∨x=125):an5 false (x::r)=false∧0≤(nx (x::r)).2:=bs9 hx r
theorem bp7 {F:Nat} {c:UInt8} {B:Int} (hB:B≤3990) (hg:GapC gap) (hc:low c) (hn: ∀ {p p':Nat} {t:Tk} {L:List UInt8},Tat s p 1 ⟨#[c]⟩ L p' t→Nm t) (hx:x=41∨x=44∨x=125) (hd:s.data.toList.drop p=gap++(c::x::r)) (hp:p≤s.size):Ac s m (F+9) p x r (lfN 1 ⟨#[c]⟩) B 1:=by
 obtain⟨q,t,ht⟩:=be8 hg hc (cb0 (by rcases hx with h|h|h<;>simp [h])) hd hp
 have h1:=hn ht
 exact bL8 (F:=F+2) ht (by decide) (Ufn.nmT h1) (.inr h1.sl) hx hB (fun u hu=>bM0 F h1 hu) ((ap5 1 t (by decide)).trans (by rw [ht.text])) (show(1:Int)≠22 by decide) (show(1:Int)≠18 by decide) (by rintro⟨_,h⟩;have:=h1.asy;exact absurd h this) rfl rfl (by show 1+0≤1;decide)
theorem aZ3 {k:Int} {y:ByteArray} {t:Tk} {L:List UInt8} {p':Nat} {F:Nat} {u:Tk} {B:Int} (ht:Tat s p k y L p' t) (hk:k=3∨k=4) (hu:Sees s 1 t.till u):Bas s m (F+2) t (ag1 k t) t.till u B:=by
 have h:=bD3 (m:=m) (B:=B) F (by rw [ht.kind];exact hk) hu
 rw [ht.kind] at h
 exact h
theorem bu8 {k:Int} (t:Tk) (hk:k=3∨k=4):ad9 (ag1 k t)=true:=by rcases hk with rfl|rfl<;>rfl
theorem bU1 {k:Int} {y:ByteArray} {t:Tk} {q F:Nat} (ht:Tat s p k y R q t) (hk:k=3∨k=4):Pc s m (F+4) p R (lfN k y):=
 cc2 (F:=F+1) (ht.sees 2 (.inr rfl)) (Ufn.lit (by rw [ht.kind];omega)) ht.rest ht.le (fun u hu _=>by have:=aZ3 (m:=m) (F:=F) (B:=3890) ht hk (u:=u) (by rw [ht.till];exact hu);rw [ht.till] at this;exact this) ((ap5 k t (by omega)).trans (by rw [ht.text])) (by show k≠22;omega) (by show k≠18;omega) (by rintro⟨h,_⟩;have:k=1:=h;omega) (bu8 t hk) (by show 1+0≤12;decide)
theorem aX7 {k:Int} {y:ByteArray} {t:Tk} {q F:Nat} {B:Int} (hB:B≤3990) (ht:Tat s p k y (x::r) q t) (hk:k=3∨k=4) (hsl:x=41∨Lib.hasPrefix y.data.toList [47]=false) (hx:x=41∨x=44∨x=125):Ac s m (F+8) p x r (lfN k y) B 1:=
 bL8 (F:=F+1) ht (by omega) (Ufn.lit (by rw [ht.kind];omega)) (hsl.imp id fun h=>by unfold aA0;rw [ht.text];exact h) hx hB (fun u hu=>aZ3 ht hk hu) ((ap5 k t (by omega)).trans (by rw [ht.text])) (by show k≠22;omega) (by show k≠18;omega) (by rintro⟨h,_⟩;have:k=1:=h;omega) rfl (bu8 t hk) (by show 1+0≤1;decide)
theorem bN7 {F:Nat} {N:Nd} {Z:Nat} {L:List UInt8} (hg:GapC gap) (hd:s.data.toList.drop p=gap++(40::L)) (hp:p≤s.size) (hx:x=41∨x=44∨x=125) {B:Int} (hB:B≤3990) (h: ∀p',s.data.toList.drop p'=L→p'≤s.size→Ac s m F p' 41 (x::r) N (B+1) Z):Ac s m (F+11) p x r N B (Z+1):=by
 obtain⟨p',t,ht⟩:=aC1 hg (.inl rfl) hd hp
 exact bX8 ht (h p' ht.rest ht.le) hx hB
theorem g0:GapC []:= .inl rfl
theorem Ac.mono {F Z Z':Nat} {N:Nd} {B B':Int} (h:Ac s m F p x r N B Z) (hB:B'≤B) (hZ:Z≤Z'):Ac s m F p x r N B' Z':=by
 obtain⟨v,k,u,q0,q,a1,a0,a2,a3,a4,a5,a6,a7,a8,a9,a10⟩:=h
 exact⟨v,k,u,q0,q,a1,a0,a2,a3,a4,a5.mono hB,a6,a7,a8,a9,by omega⟩
end
def ba0 (a b:Nd):Nd:= .mk 29 ⟨#[43]⟩ [a,b] 0 0
def rowT:List (List UInt8 × Nd)→List UInt8
 | []=> []
 |x::xs=>32::43::32::(x.1++rowT xs)
def rowN (a:Nd):List (List UInt8 × Nd)→Nd
 | []=>a
 |x::xs=>rowN (ba0 a x.2) xs
section
variable {s:ByteArray} {m:Bool}
def bC5 (s:ByteArray) (m:Bool) (F:Nat) (x:List UInt8 × Nd):Prop:= ∀(p:Nat) (R:List UInt8),StP R→s.data.toList.drop p= [32]++(x.1++R)→p≤s.size→Pc s m F p R x.2
theorem cd1 {E:List UInt8} (hE:StP E): ∀xs,StP (rowT xs++E)
 | []=>hE
 |_::_=> .inr ⟨32,_,rfl,.inl rfl⟩
theorem bz5 {F:Nat} {E:List UInt8} (hES:StP E) (P:Nat→Tk→Prop) (hEnd: ∀q,s.data.toList.drop q=E→q≤s.size→∃u,P q u∧Sees s 1 q u∧Cl3 u): ∀(xs:List (List UInt8 × Nd)),(∀x ∈ xs,bC5 s m F x)→∀(a:Nd) (q:Nat),s.data.toList.drop q=rowT xs++E→q≤s.size→a.kind≠22→a.kind≠18→a.till=(q:Int)→ad9 a=true→
  ∃u0 n u',∃q':Nat,Sees s 1 q u0∧Aft u0∧punctT u0 ⟨#[61,62]⟩=false∧P q' u'∧Cl3 u'∧ab0 n=rowN (ab0 a) xs∧n.kind≠22∧n.kind≠18∧n.till=(q':Int)∧ad9 n=true∧aa0 n≤aa0 a+13*xs.length∧
   ∀(g:Nat) (ne ar:Int),xs.length<g→0≤ne→ne<3880→∃ar2,ae5.opsL s (runQ s m (F+2)) 1 false g a (Zs q u0 1 1 ne ar)= .ok n (Zs q' u' 1 1 ne ar2)
 | [],_,a,q,hd,hq,h22,h18,ht,hp=>by
  obtain⟨u,h1,h2,h3⟩:=hEnd q hd hq
  refine⟨u,a,u,q,h2,.inr h3.stp,h3.arr,h1,h3,rfl,h22,h18,ht,hp,Nat.le_refl _,fun g ne ar hg _ _=> ?_⟩
  obtain⟨g0,rfl⟩: ∃g0,g=g0+1:=⟨g - 1,by omega⟩
  exact⟨ar,bT6 h3.stp⟩
 |x::xs,hx,a,q,hd,hq,h22,h18,ht,hp=>by
  obtain⟨p1,o,ho⟩:=bB3 (gap:= [32]) (R:=x.1++(rowT xs++E)) (.inr rfl) (by rw [hd];simp [rowT]) hq
  obtain⟨t,n1,q1,h1,h2,h3,h4,h5,h6,h7,h8,h9,h10⟩:=hx x (.head _) p1 (rowT xs++E) (cd1 hES xs) ho.rest ho.le
  obtain⟨u0,n,u',q',k1,k2,k3,k4,k5,k6,k7,k8,k9,k10,k11,k12⟩:=bz5 hES P hEnd xs (fun y hy=>hx y (.tail _ hy)) (.mk 29 ⟨#[43]⟩ [a,n1] a.from' (q1:Int)) q1 h3 h4 (show(29:Int)≠22 by decide) (show(29:Int)≠18 by decide) rfl (by rw [ad9,ab6,ab6,ab6,hp,h9];rfl)
  refine⟨o,n,u',q',ho.sees 1 (.inl rfl),.inl ho.opn,ho.opn.no (by decide),k4,k5,?_,k7,k8,k9,k10,?_,fun g ne ar hg h0 hn=> ?_⟩
  ·rw [k6,ab0,if_neg (by decide),ab9,ab9,ab9,h6]
   rfl
  ·rw [aa0,aa4,aa4,aa4] at k11
   rw [List.length_cons]
   omega
  ·rw [List.length_cons] at hg
   obtain⟨g0,rfl⟩: ∃g0,g=g0+1:=⟨g - 1,by omega⟩
   obtain⟨ar1,e1⟩:=bI8 (i:=q) (ar:=ar) (g0:=g0) (x:=a) ho.opn (h5 u0 k1 k2.endy k3) (by rw [ho.till];exact h1) h2.k2 h7 k2 h0 hn
   obtain⟨ar2,e2⟩:=k12 g0 ne ar1 (by omega) h0 hn
   exact⟨ar2,e1.trans e2⟩
theorem bz4 {F:Nat} {E:List UInt8} (hES:StP E) (P:Nat→Tk→Prop) (hEnd: ∀q,s.data.toList.drop q=E→q≤s.size→∃u,P q u∧Sees s 1 q u∧Cl3 u) (xs:List (List UInt8 × Nd)) (hx: ∀x ∈ xs,bC5 s m F x) (hF:xs.length≤F) {t:Tk} {a:Nd} {q:Nat} {B:Int} (hB:B≤3880) (hf:Ufn t) (hd:s.data.toList.drop q=rowT xs++E) (hq:q≤s.size) (h22:a.kind≠22) (h18:a.kind≠18) (ht:a.till=(q:Int)) (hp:ad9 a=true) (hu: ∀u,Sees s 1 q u→Endy u→punctT u ⟨#[61,62]⟩=false→Una s m (F+1) t a q u B):
  ∃n u',∃q':Nat,P q' u'∧Cl3 u'∧ab0 n=rowN (ab0 a) xs∧n.kind≠22∧n.kind≠18∧n.till=(q':Int)∧ad9 n=true∧aa0 n≤aa0 a+13*xs.length∧∀i ne ar:Int,0≤ne→ne<B→∃ar2,runQ s m (F+3) (.binary 1 false) (Zs i t 2 1 ne ar)= .ok n (Zs q' u' 1 1 ne ar2):=by
 obtain⟨u0,n,u',q',k1,k2,k3,k4,k5,k6,k7,k8,k9,k10,k11,k12⟩:=bz5 hES P hEnd xs hx a q hd hq h22 h18 ht hp
 refine⟨n,u',q',k4,k5,k6,k7,k8,k9,k10,k11,fun i ne ar h0 hn=> ?_⟩
 obtain⟨ar1,h2⟩:=hu u0 k1 k2.endy k3 i ne ar h0 hn
 obtain⟨ar2,h3⟩:=k12 (F+2) ne ar1 (by omega) h0 (by omega)
 refine⟨ar2,?_⟩
 show ae5 s (F+2) (runQ s m (F+2)) 1 false _=_
 unfold ae5
 rw [PM.go ((aw4 (f:=F+1) _ (ab4 (by decide)) hf.k2).trans h2),if_neg h22]
 exact h3
theorem bV6 {F:Nat} (xs:List (List UInt8 × Nd)) (hx: ∀x ∈ xs,bC5 s false F x) (hF:xs.length≤F) {t v:Tk} {a:Nd} {q:Nat} (hf:Ufn t) (h2:Sees s 2 0 t) (hv:Sees s 1 t.till v) (hvr:punctT v ⟨#[61,62]⟩=false) (hd:s.data.toList.drop q=rowT xs) (hq:q≤s.size) (h22:a.kind≠22) (h18:a.kind≠18) (ht:a.till=(q:Int)) (hp:ad9 a=true) (hz:aa0 a+13*xs.length≤8000) {B:Int} (hB0:1<B) (hB:B≤3880) (hu: ∀u,Sees s 1 q u→Endy u→punctT u ⟨#[61,62]⟩=false→Una s false (F+1) t a q u B):
  ∃n q,aY9 s false (F+6)= .ok n q∧ab0 n=rowN (ab0 a) xs∧aa0 n≤aa0 a+13*xs.length:=by
 obtain⟨n,u',q',k4,k5,k6,k7,k8,k9,k10,k11,k12⟩:=bz4 (m:=false) (E:= []) (.inl rfl) (fun _ u=>u.kind=0∧punctT u ⟨#[44]⟩=false) (fun q h1 h2=>⟨_,⟨rfl,rfl⟩,aQ7 (.inl rfl) h1 h2,br1 rfl⟩) xs hx hF hB hf (by rw [hd,List.append_nil]) hq h22 h18 ht hp hu
 obtain⟨ar2,h3⟩:=k12 0 1 t.from' (by decide) (by omega)
 have ha:runQ s false (F+5) .assign (ps0 false)= .ok n _:=aL5 (m:=false) (f:=F+4) (ne:=0) (p:=Zs 0 Tk.zero 0 1 0 (-1)) (hf.nm _ (by simp)) (hf.nm _ (by simp)) (ae4 h2) hv hvr (by decide) (by decide) (bM4 h3 k7 k5.q) (aL6 k7 k5.asg)
 exact⟨n,_,bZ5 (aC8 ha k4.2) k4.1 k10 (by omega),k6,k11⟩
theorem bX9 {F p:Nat} {r:List UInt8} (xs:List (List UInt8 × Nd)) (hx: ∀x ∈ xs,bC5 s m F x) (hF:xs.length≤F) {t v:Tk} {a:Nd} {q:Nat} {B:Int} (hB:B+1≤3880) (hs:Sees s 2 p t) (hs1: ∃v',Sees s 1 p v'∧punctT v' ⟨#[61,62]⟩=false) (hf:Ufn t) (hv:Sees s 1 t.till v) (hvr:punctT v ⟨#[61,62]⟩=false) (hd:s.data.toList.drop q=rowT xs++41::r) (hq:q≤s.size) (h22:a.kind≠22) (h18:a.kind≠18) (ht:a.till=(q:Int)) (hp:ad9 a=true) (hu: ∀u,Sees s 1 q u→Endy u→punctT u ⟨#[61,62]⟩=false→Una s m (F+1) t a q u (B+1)):
  Ac s m (F+5) p 41 r (rowN (ab0 a) xs) B (aa0 a+13*xs.length):=by
 obtain⟨n,u',q',⟨q2,k4⟩,k5,k6,k7,k8,k9,k10,k11,k12⟩:=bz4 (m:=m) (E:=41::r) (.inr ⟨41,r,rfl,.inr rfl⟩) (fun q u=> ∃q2,Tat s q 5 ⟨#[41]⟩ r q2 u) (fun q h1 h2=>by obtain⟨q2,u,hu⟩:=aR1 (.inl rfl) h1 h2;exact⟨u,⟨q2,hu⟩,hu.sees 1 (.inl rfl),br2 hu.opn (.inl rfl)⟩) xs hx hF hB hf hd hq h22 h18 ht hp hu
 have hasg:=aL4 hf k7 k5.q k5.asg hv hvr k12 (by omega)
 rw [Int.add_sub_cancel] at hasg
 exact⟨t,n,u',q',q2,hs,hs1,hf,.inl rfl,k4,hasg,k6,k8,k9,k10,k11⟩
end
section
variable {s:ByteArray} {m:Bool}
theorem bl8 (hs:s.data.toList= [40,39,97,39,32,43,32,48,120,48,70,41]): ∃n q,aY9 s false 70= .ok n q∧ab0 n=ba0 (lfN 4 ⟨#[39,97,39]⟩) (lfN 3 ⟨#[48,120,48,70]⟩)∧aa0 n≤40:=by
 obtain⟨p',t,ht⟩:=aC1 (s:=s) (p:=0) (gap:= []) (x:=40) (R:= [39,97,39,32,43,32,48,120,48,70,41]) g0 (.inl rfl) (by rw [List.drop_zero,hs];rfl) (Nat.zero_le _)
 have hin:Ac s false 58 p' 41 [] (ba0 (lfN 4 ⟨#[39,97,39]⟩) (lfN 3 ⟨#[48,120,48,70]⟩)) 3800 14:=by
  obtain⟨q1,t1,h1⟩:=bj4 (q:=39) (b:= [97]) (R:=32::43::32::([48,120,48,70]++ [41])) (.inl rfl) g0 (aW1 _ _ _ (by decide)) (by kernel_rfl) ht.rest ht.le
  obtain⟨_,o,ho⟩:=bB3 (gap:= [32]) (.inr rfl) h1.rest h1.le
  have h:=bX9 (s:=s) (m:=false) (F:=53) (p:=p') (r:= []) [([48,120,48,70],lfN 3 ⟨#[48,120,48,70]⟩)] (fun x hx=>by
   rw [List.mem_singleton.1 hx]
   intro p R hR hd hp
   obtain⟨q,t,ht⟩:=bW7 (x:=120) (h:= [48,70]) (.inr rfl) (.inl rfl) (by decide) (by decide) hR.num hd hp
   exact bU1 (F:=49) ht (.inl rfl)) (by decide) (B:=3800) (by decide) (h1.sees 2 (.inr rfl)) ⟨t1,h1.sees 1 (.inl rfl),Ufn.pn1 h1 (by decide)⟩ (Ufn.lit (by rw [h1.kind];decide)) (by rw [h1.till];exact ho.sees 1 (.inl rfl)) (ho.opn.no (by decide)) (a:=ag1 4 t1) h1.rest h1.le (show(4:Int)≠22 by decide) (show(4:Int)≠18 by decide) h1.till rfl (fun u hu he _=>au7 (F:=51) (by have:=aZ3 (m:=false) (F:=50) (B:=3801) h1 (.inr rfl) (u:=u) (by rw [h1.till];exact hu);rw [h1.till] at this;exact this) (Ufn.lit (by rw [h1.kind];decide)) (show(4:Int)≠22 by decide) (by rintro⟨h,_⟩;exact absurd (show(4:Int)=1 from h) (by decide)) he)
  rw [ap5 4 t1 (by decide),h1.text] at h
  exact h.mono (Int.le_refl _) (by show 1+0+13*1≤14;decide)
 have h0:=hin
 obtain⟨_,_,_,_,_,_,⟨v',hv1,hv2⟩,_⟩:=h0
 obtain⟨a,q,h1,h2,h3,h4,h5,h6,h7,h8⟩:=bx5 ht hin
 have hk22:a.kind≠22:=by rw [h5];decide
 obtain⟨n,q2,e1,e2,e3⟩:=bV6 (s:=s) (F:=64) [] (by simp) (Nat.zero_le _) (Ufn.opn (.inl rfl) ht.opn) (ht.sees 2 (.inr rfl)) (by rw [ht.till];exact hv1) hv2 h1 h2 hk22 (by rw [h5];decide) h6 h7 (by simp;omega) (B:=3800) (by decide) (by decide) (fun u hu he har=>au7 (F:=62) (h3 u hu har) (Ufn.opn (.inl rfl) ht.opn) hk22 (by rw [h5];simp) he)
 exact⟨n,q2,e1,e2.trans h4,by simp at e3;omega⟩
end
end
end Go.Proofs.YtnobjeelihkjmaaGreatDoor
