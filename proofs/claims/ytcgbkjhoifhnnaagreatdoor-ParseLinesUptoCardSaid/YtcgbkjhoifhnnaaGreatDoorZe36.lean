/- Steps (Tk OpP Lx OpL OpE Ly). Conditions: as stated. -/
import Derived.Test.YtcgbkjhoifhnnaaGreatDoorZe09
namespace Go.Proofs.YtcgbkjhoifhnnaaGreatDoor
section
open Go.RowKit
class CsC where
 cs:List (Int × Int)
instance (priority:=low) CsC.none:CsC:=⟨[]⟩
def Zs [C:CsC] (i:Int) (t:Tk) (g fl ne ar:Int):Ps:=⟨i,t,[],g,[],fl,ne,ar,C.cs⟩
def Sees (s:ByteArray) (g:Int) (i:Int) (t:Tk):Prop:=0≤i∧i≤(s.size:Int)∧∃q n,nxt s i.toNat g= .fine t.kind q n t.line []∧tkOf s t.kind q n t.line=t
def ai1 (t:Tk):Bool:=Lib.hasPrefix t.text.data.toList [47]
theorem PM.go {α β:Type} {x:PM α} {f:α→PM β} {p q:Ps} {a:α} (h:x p= .ok a q):(x>>=f) p=f a q:=by
 show PM.bind x f p=_
 unfold PM.bind
 rw [h]
section
variable {s:ByteArray} {g g' i fl ne ar:Int} {t tk:Tk}
theorem aY9 (h:Sees s 1 i t) (p:Ps):az9 s i p= .ok t p:=by
 obtain⟨h0,h1,q,n,h2,h3⟩:=h
 unfold az9 bj4
 rw [if_neg (by omega),h2]
 simp only
 rw [h3]
 rfl
variable {C':CsC} [C:CsC]
theorem ac2 (h:Sees s g i t):ab2 s g (Zs i tk 0 fl ne ar)= .ok t (Zs i t g fl ne ar):=by
 obtain⟨h0,h1,q,n,h2,h3⟩:=h
 unfold ab2 an6 Zs
 rw [if_neg (by simp)]
 unfold aY6
 simp only
 rw [if_neg (by omega),h2]
 simp only
 rw [h3]
theorem ac1 (hg:g≠0):ab2 s g (Zs i t g fl ne ar)= .ok t (Zs i t g fl ne ar):=by
 unfold ab2 an6 Zs
 rw [if_pos (by simp [hg])]
theorem aT0 (h1:g'≠0) (h2:g'≤2) (h3:g≤2) (hs:ai1 t=false):ab2 s g (Zs i t g' fl ne ar)= .ok t (Zs i t g' fl ne ar):=by
 unfold ai1 at hs
 unfold ab2 an6 Zs
 rw [if_pos (by simp [h1,h2,h3,hs])]
theorem ak6:af3 (Zs i t g fl ne ar)= .ok t (Zs t.till t 0 fl ne ar):=rfl
theorem bi1 {x:ByteArray} (hp:ab2 s 1 (Zs i tk g' fl ne ar)= .ok t (Zs i t g fl ne ar)) (h:punctT t x=false):isP s x (Zs i tk g' fl ne ar)= .ok false (Zs i t g fl ne ar):=by
 unfold isP
 rw [PM.go hp,if_neg (by rw [h];decide)]
 rfl
theorem bi2 {x:ByteArray} (hp:ab2 s 1 (Zs i tk g' fl ne ar)= .ok t (Zs i t g fl ne ar)) (h:punctT t x=true):isP s x (Zs i tk g' fl ne ar)= .ok true (Zs t.till t 0 fl ne ar):=by
 unfold isP
 rw [PM.go hp,if_pos h]
 rfl
theorem ar7 {x:ByteArray} (hp:ab2 s 1 (Zs i tk g' fl ne ar)= .ok t (Zs i t g fl ne ar)) (h:punctT t x=true):am9 s x (Zs i tk g' fl ne ar)= .ok t (Zs t.till t 0 fl ne ar):=by
 unfold am9
 rw [PM.go hp,if_pos h]
 rfl
end
structure Nm (t:Tk):Prop where
 kind:t.kind=1
 res:ag1 t.text resW=false
 aw:t.text≠⟨#[97,119,97,105,116]⟩
 asy:t.text≠⟨#[97,115,121,110,99]⟩
 sl:ai1 t=false
theorem bs4 {t:ByteArray} {l:List ByteArray} (h:ag1 t l=false) {x:ByteArray} (hx:ag1 x l=true):t≠x:=by
 rintro rfl
 rw [h] at hx
 cases hx
theorem Nm.ne {t:Tk} (h:Nm t) {x:ByteArray} (hx:ag1 x resW=true):t.text≠x:=bs4 h.res hx
theorem Nm.nameT {t:Tk} (h:Nm t) {x:ByteArray} (hx:ag1 x resW=true):nameT t x=false:=by
 unfold Go.Proofs.YtcgbkjhoifhnnaaGreatDoor.nameT
 rw [decide_eq_false (h.ne hx),Bool.and_false]
theorem Nm.punctT {t:Tk} (h:Nm t) (x:ByteArray):punctT t x=false:=by
 unfold Go.Proofs.YtcgbkjhoifhnnaaGreatDoor.punctT
 rw [h.kind]
 rfl
theorem Nm.ident {t:Tk} (h:Nm t) (m:Bool) (fl:Int):aj0 m fl t=true:=by
 unfold aj0 aa0
 rw [if_neg h.aw,h.res,h.kind,decide_eq_true h.aw]
 simp
theorem ae3 {t:Tk} {x:ByteArray} (h:t.text≠x):nameT t x=false:=by
 unfold nameT
 rw [decide_eq_false h,Bool.and_false]
theorem aa7 {t:Tk} {x:ByteArray} (h:t.kind≠5):punctT t x=false:=by
 unfold punctT
 rw [decide_eq_false h,Bool.false_and]
theorem aG0 {t:Tk} {x:ByteArray} (h:t.text≠x):punctT t x=false:=by
 unfold punctT
 rw [decide_eq_false h,Bool.and_false]
theorem ag5 {t:Tk} {x:ByteArray} (h:t.kind≠1):nameT t x=false:=by
 unfold nameT
 rw [decide_eq_false h,Bool.false_and]
structure Endy (u:Tk):Prop where
 dot:punctT u ⟨#[46]⟩=false
 brk:punctT u ⟨#[91]⟩=false
 par:punctT u ⟨#[40]⟩=false
 opt:punctT u ⟨#[63,46]⟩=false
 k7:u.kind≠7
 k8:u.kind≠8
 inc:punctT u ⟨#[43,43]⟩=false
 dec:punctT u ⟨#[45,45]⟩=false
section
variable {s:ByteArray} {m:Bool} {g i fl ne ar:Int} {t u tk:Tk}
theorem ap1 (p:Ps):getP p= .ok p p:=rfl
theorem as5 (t:Tk): ¬(aa8 1 t).kind=22:=by
 show¬(1:Int)=22
 decide
variable {C':CsC} [C:CsC]
theorem bA9 (f:Nat) (h:Nm t) (hg:g=1∨g=2):runQ s m (f+1) (.named t) (Zs i t g fl ne ar)= .ok (aa8 1 t) (Zs t.till t 0 fl ne ar):=by
 show aF1 s m (runQ s m f) t _=_
 have h1:ag1 t.text [⟨#[116,104,105,115]⟩,⟨#[110,117,108,108]⟩,⟨#[116,114,117,101]⟩,⟨#[102,97,108,115,101]⟩]=false:=by
  unfold ag1
  rw [List.any_eq_false]
  intro x hx
  simp only [List.mem_cons,List.not_mem_nil,or_false] at hx
  rcases hx with rfl|rfl|rfl|rfl<;>(rw [decide_eq_false (h.ne (by decide))];decide)
 unfold aF1
 rw [if_neg (by rw [h1];decide),if_neg (h.ne (by decide)),if_neg (h.ne (by decide)),if_neg h.asy]
 unfold ae2
 have hp:ab2 s 1 (Zs i t g fl ne ar)= .ok t (Zs i t g fl ne ar):=aT0 (by omega) (by omega) (by omega) h.sl
 rw [PM.go hp]
 show(if aj0 m fl t then _ else _:PM Nd) _=_
 rw [if_pos (h.ident m fl),PM.go ak6]
 rfl
theorem be8 (f:Nat) (h:Nm t) (hg:g=1∨g=2) (calls:Bool):runQ s m (f+3) (.base t calls) (Zs i t g fl ne ar)= .ok (aa8 1 t) (Zs t.till t 0 fl ne ar):=by
 show aK4 s m (runQ s m (f+2)) t calls _=_
 unfold aK4
 rw [if_neg (by rw [h.nameT (by decide)];decide),if_neg (by rw [h.nameT (by decide)];decide),if_neg (by rw [h.nameT (by decide)];decide)]
 show am8 (runQ s m (f+1)) t _=_
 have hk:=h.kind
 unfold am8
 rw [if_neg (by omega),if_neg (by omega),if_neg (by omega),if_pos hk]
 exact bA9 f h hg
theorem aS5 (f:Nat) (n:Nd) (calls tmpl:Bool) (hu:Endy u) (hp:ab2 s 1 (Zs i tk g fl ne ar)= .ok u (Zs i u 1 fl ne ar)):runQ s m (f+1) (.link n calls tmpl) (Zs i tk g fl ne ar)= .ok (n,false) (Zs i u 1 fl ne ar):=by
 show aE7 s (runQ s m f) n calls tmpl _=_
 unfold aE7
 rw [PM.go hp,if_neg (by rw [hu.dot];decide),if_neg (by rw [hu.brk];decide),if_neg (by rw [hu.par];simp),if_neg (by have:=hu.k7;have:=hu.k8;omega)]
 rfl
theorem ac3 (hg:g=1∨g=2) (hs:ai1 t=false) {g2:Int} (h2:g2≤2):ab2 s g2 (Zs i t g fl ne ar)= .ok t (Zs i t g fl ne ar):=aT0 (by omega) (by omega) h2 hs
theorem bH7 (f:Nat) {p:Ps} (h:Nm t) (hg:g=1∨g=2) (hp:ab2 s 2 p= .ok t (Zs i t g fl ne ar)) (hu:Endy u) (hs:Sees s 1 t.till u):
  runQ s m (f+4) .leftHand p= .ok (aa8 1 t) (Zs t.till u 1 fl ne ar):=by
 show ad4 s (f+3) (runQ s m (f+3)) p=_
 unfold ad4
 rw [PM.go hp,PM.go (ap1 _)]
 show(runQ s m (f+3) (.base t true)>>=_) _=_
 rw [PM.go (be8 f h hg true),if_neg (as5 t),if_neg (by rw [show decide ((aa8 1 t).text=⟨#[97,115,121,110,99]⟩)=false from decide_eq_false h.asy];simp)]
 unfold ad4.linkL
 rw [PM.go (ac2 hs),if_neg (by rw [hu.opt];decide),PM.go (aS5 (f+2) (aa8 1 t) true true hu (ac1 (by decide))),if_neg (show¬((false:Bool)=true) by decide)]
 rfl
theorem bE2 (f:Nat) {p:Ps} (h:Nm t) (hg:g=1∨g=2) (hp:ab2 s 2 p= .ok t (Zs i t g fl ne ar)) (hu:Endy u) (hs:Sees s 1 t.till u):
  runQ s m (f+5) .unary p= .ok (aa8 1 t) (Zs t.till u 1 fl ne ar):=by
 show aq4 s (runQ s m (f+4)) p=_
 unfold aq4
 rw [PM.go hp,if_neg (by rw [h.nameT (by decide),h.nameT (by decide),h.nameT (by decide),h.punctT,h.punctT,h.punctT,h.punctT];decide),PM.go (ap1 _),if_neg (by rw [ae3 h.aw];simp),if_neg (by rw [h.punctT,h.punctT];decide),PM.go (bH7 f h hg (ac3 hg h.sl (by decide)) hu hs),if_neg (as5 t),PM.go (ac1 (by decide)),if_neg (by rw [hu.inc,hu.dec];simp)]
 rfl
theorem bk1 (f:Nat) (least:Int) {p:Ps} (h:Nm t) (hg:g=1∨g=2) (hp:ab2 s 2 p= .ok t (Zs i t g fl ne ar)) (hu:Endy u) (hs:Sees s 1 t.till u):
  runQ s m (f+6) (.operand least) p= .ok (aa8 1 t) (Zs t.till u 1 fl ne ar):=by
 show am7 s (runQ s m (f+5)) least p=_
 unfold am7
 rw [PM.go hp,if_pos (by rw [h.kind];decide)]
 exact bE2 f h hg (ac3 hg h.sl (by decide)) hu hs
end
end
section
open Go.RowKit
structure Opr (o:Tk):Prop where
 op:(decide (o.kind≠5) && !nameT o ⟨#[105,110,115,116,97,110,99,101,111,102]⟩ && !nameT o ⟨#[105,110]⟩)=false
 lo:2≤ad6 o.text
 hi:ad6 o.text≤12
 star:ad6 o.text=12↔o.text=⟨#[42,42]⟩
 e:Endy o
structure Stp (u:Tk):Prop where
 op:(decide (u.kind≠5) && !nameT u ⟨#[105,110,115,116,97,110,99,101,111,102]⟩ && !nameT u ⟨#[105,110]⟩)=true∨ad6 u.text=0
 e:Endy u
section
variable {s:ByteArray}
def Row (s:ByteArray):Int→List (Tk × Tk)→Tk→Prop
 |i,[],e=>Sees s 1 i e
 |i,x::l,e=>Sees s 1 i x.1∧Opr x.1∧Sees s 2 x.1.till x.2∧Nm x.2∧Row s x.2.till l e
def bH6:Tk→List (Tk × Tk)→Tk
 |v,[]=>v
 |_,x::l=>bH6 x.2 l
def bL0:List (Tk × Tk)→Tk→Tk
 | [],e=>e
 |x::_,_=>x.1
theorem Row.drop {e:Tk} : ∀ {a b:List (Tk × Tk)} {v:Tk},Row s v.till (a++b) e→Row s (bH6 v a).till b e
 | [],_,_,h=>h
 |x::a,_,_,h=>Row.drop (a:=a) (v:=x.2) h.2.2.2.2
theorem Row.head {l:List (Tk × Tk)} {i:Int} {e:Tk} (h:Row s i l e):Sees s 1 i (bL0 l e):=by
 cases l with
 |nil=>exact h
 |cons x l=>exact h.1
theorem ag0 (t:Tk):ac6 (aa8 1 t)= .mk 1 t.text [] 0 0:=by
 unfold aa8
 rw [ac6,if_neg (by decide),aa1]
variable {m:Bool}
theorem aF4 [C:CsC] {i ne ar:Int} {u:Tk} (h:Stp u): ∃r:Tk × Int,r.2=0∧ai0 s (Zs i u 1 1 ne ar)= .ok r (Zs i u 1 1 ne ar):=by
 unfold ai0
 rw [PM.go (ac1 (by decide)),PM.go (ap1 _)]
 have h2:hasF 1 1=true:=by decide
 show∃r:Tk × Int,r.2=0∧(if (decide (u.kind≠5) && !nameT u ⟨#[105,110,115,116,97,110,99,101,111,102]⟩ && (!nameT u ⟨#[105,110]⟩|| !hasF 1 1))=true then _ else _:PM (Tk × Int)) _=_
 rw [h2,Bool.not_true,Bool.or_false]
 rcases h.op with h1|h1
 ·rw [if_pos h1]
  exact⟨_,rfl,rfl⟩
 ·split
  ·exact⟨_,rfl,rfl⟩
  ·exact⟨_,h1,rfl⟩
end
end
section
open Go.RowKit
section
variable {s:ByteArray} {p:Nat}
theorem bu0 {c:UInt8} {l:List UInt8} (hd:s.data.toList.drop p=c::l):p<s.size:=by
 have h:=congrArg List.length hd
 rw [List.length_drop,List.length_cons] at h
 show p<s.data.size
 rw [←Array.length_toList]
 omega
theorem aX3 {c:UInt8} {l:List UInt8} (hd:s.data.toList.drop p=c::l):s.data.toList.drop (p+1)=l:=by
 rw [←List.drop_drop,hd]
 rfl
theorem aQ2 {a l:List UInt8} (hd:s.data.toList.drop p=a++l):s.data.toList.drop (p+a.length)=l:=by
 rw [←List.drop_drop,hd,List.drop_left]
theorem aM5 {a l:List UInt8} (hd:s.data.toList.drop p=a++l) (hp:p≤s.size):p+a.length≤s.size:=by
 have h:=congrArg List.length hd
 rw [List.length_drop,List.length_append] at h
 have h2:s.data.toList.length=s.size:=Array.length_toList
 omega
theorem bu1 {a l:List UInt8} (hd:s.data.toList.drop p=a++l):s.extract p (p+a.length)=⟨a.toArray⟩:=by
 apply bv1
 rw [ByteArray.data_extract,Array.toList_extract,List.extract_eq_take_drop,hd,Nat.add_sub_cancel_left,List.take_left]
def Ink (l:List UInt8):Prop:=ap9 l=false∧∀p,0<p→ae0 p l=0
theorem aK5 {l:List UInt8} {line:Bool} (hd:s.data.toList.drop p=l) (hp:p≤s.size) (h:ap9 l=false∧ae0 p l=0):btw s p line= .fine p line []:=by
 rw [ax9 s p line hp,hd,if_neg (by rw [h.1];decide),if_pos h.2]
end
def aC0 (c:UInt8):Bool:=decide (c.toNat<128) && aw0 (c.toNat:Int)
theorem aI8 {l:List UInt8} (hl:am5 false l=false): ∀(a:List UInt8),(∀c ∈ a,aC0 c=true)→ah5 false (a++l)=a.length
 | [],_=>aF7 hl
 |c::a,h=>by
  have hc:=h c (.head _)
  unfold aC0 at hc
  rw [Bool.and_eq_true,decide_eq_true_eq] at hc
  have hg:am5 false (c::(a++l))=true:=by
   unfold am5
   rw [af4 _ _ hc.1,hc.2]
   rfl
  rw [List.cons_append,au2 hg,af4 _ _ hc.1]
  show 1+ah5 false (a++l)=_
  rw [aI8 hl a (fun c hc=>h c (.tail _ hc)),List.length_cons]
  omega
theorem aP0 {c:UInt8} {a l:List UInt8} (hc:c.toNat<128) (hs:ae5 (c.toNat:Int)=true) (ha: ∀c ∈ a,aC0 c=true) (hl:am5 false l=false):am6 false (c::(a++l))=a.length+1:=by
 have hw: ∀x ∈ c::a,aC0 x=true:=by
  intro x hx
  rcases List.mem_cons.1 hx with rfl|hx
  ·unfold aC0 aw0
   rw [decide_eq_true hc,hs]
   rfl
  ·exact ha x hx
 unfold am6
 rw [af4 _ _ hc,if_pos ⟨show (0:Int)<1 by decide,hs⟩,←List.cons_append,aI8 hl _ hw,List.length_cons]
@[reducible] def low (c:UInt8):Prop:=97≤c.toNat∧c.toNat≤122
theorem ad7 {c d:UInt8} {l w:List UInt8} (h:c≠d):Lib.hasPrefix (c::l) (d::w)=false:=by
 unfold Lib.hasPrefix
 rw [List.isPrefixOf_cons_cons,beq_eq_false_iff_ne.2 (Ne.symm h),Bool.false_and]
theorem bc2 {g:Int} {c:UInt8} {a l:List UInt8} (hlo:low c) (hs:ae5 (c.toNat:Int)=true) (ha: ∀c ∈ a,aC0 c=true) (hl:am5 false l=false) (hl2:0≤(nx l).2):
  ah6 g (c::a++l)= .fine 1 (c::a).length:=by
 obtain⟨h1,h2⟩:=hlo
 have hn: ∀d:UInt8,d.toNat<97→c≠d:=by rintro d hd rfl;omega
 have hdig:ai8 (c::(a++l))=false:=by
  unfold ai8
  rw [decide_eq_false_iff_not]
  omega
 have hw:=aP0 (l:=l) (by omega) hs ha hl
 rw [List.cons_append]
 unfold ah6
 rw [if_neg (by simp),if_neg (by rw [ad7 (hn _ (by decide))];decide),if_neg (by rw [ad7 (hn _ (by decide))];decide),if_neg (by rw [hdig,ad7 (hn 46 (by decide))];simp),if_neg (by rw [ad7 (hn _ (by decide)),ad7 (hn _ (by decide))];simp),if_neg (by rw [ad7 (hn _ (by decide))];simp),hw,if_pos (by omega)]
 unfold aft
 rw [show (c::(a++l)).drop (a.length+1)=l by rw [List.drop_succ_cons,List.drop_left],if_neg (by omega),List.length_cons]
theorem bx0 {f:Nat→Bool} {m:Nat} (h:(List.range m).all f=true) (n:Nat) (hn:n<m):f n=true:=List.all_eq_true.1 h n (List.mem_range.2 hn)
theorem by9:(List.range 127).all (fun n=>decide (n<33)|| !(am4 (n:Int)||au9 (n:Int)))=true:=by kernel_rfl
theorem bA8:(List.range 127).all (fun n=>decide (n<97∨122<n)||ae5 (n:Int))=true:=by kernel_rfl
theorem bH3 {c:UInt8} {l:List UInt8} (h1:33≤c.toNat) (h2:c.toNat<127) (h3:c≠47) (h4:c≠35):Ink (c::l):=by
 refine⟨?_,fun p hp=> ?_⟩
 ·unfold ap9
  rw [af4 _ _ (by omega)]
  show(decide ((0:Int)<1) && (am4 (c.toNat:Int)||au9 (c.toNat:Int)))=false
  have h:=(Bool.or_eq_true _ _).mp (bx0 by9 c.toNat h2)
  rw [Bool.not_eq_true',decide_eq_true_eq] at h
  rw [h.resolve_left (by omega),Bool.and_false]
 ·unfold ae0
  rw [if_neg (by rw [ad7 h3];decide),if_neg (by rw [ad7 h3];decide),if_neg (by rw [ad7 h4];simp)]
theorem aO6 {c:UInt8} (h:low c):ae5 (c.toNat:Int)=true:=by
 obtain⟨h1,h2⟩:=h
 have h:=bx0 bA8 c.toNat (by omega)
 simp only [Bool.or_eq_true,decide_eq_true_eq] at h
 exact h.resolve_left (by omega)
theorem br9 {c:UInt8} (h:low c):aC0 c=true:=by
 unfold aC0 aw0
 rw [aO6 h,Bool.true_or,decide_eq_true (show c.toNat<128 by have:=h.2;omega)]
 rfl
theorem bB5:aw0 (((32:UInt8).toNat:Nat):Int)=false:=by kernel_rfl
theorem bz0 (l:List UInt8):am5 false (32::l)=false:=by
 unfold am5
 rw [af4 _ _ (by decide)]
 simp only [bB5,Bool.false_and,Bool.or_false,Bool.and_false]
theorem bL3 (l:List UInt8):0≤(nx (32::l)).2:=by
 rw [af4 _ _ (by decide)]
 decide
end
section
open Go.RowKit
def bH9 (c:UInt8):Bool:=decide (c.toNat<128) && !ae5 (c.toNat:Int) && decide (c≠96∧c≠35∧c≠46∧c≠39∧c≠34∧¬(48≤c.toNat∧c.toNat≤57))
def row2 (x:List UInt8 × List UInt8):ByteArray × ByteArray:=(⟨x.1.toArray⟩,⟨(118::x.2).toArray⟩)
end
section
open Go.RowKit
section
variable {s:ByteArray} {m:Bool} {i g fl ne ar:Int} {u v:Tk} {n:Nd} {p:Ps} {f:Nat}
variable {C':CsC} [C:CsC]
theorem aY2 (hb:runQ s m f (.binary 1 false) p= .ok n (Zs i u 1 fl ne ar)) (hk:n.kind≠22) (hq:punctT u ⟨#[63]⟩=false):runQ s m (f+1) .cond p= .ok n (Zs i u 1 fl ne ar):=by
 show aK8 s (runQ s m f) p=_
 unfold aK8
 rw [PM.go hb,if_neg hk,PM.go (bi1 (ac1 (by decide)) hq),if_neg (by decide)]
 rfl
theorem at8 (hk:n.kind≠22) (ha:ae6 u=false):runQ s m (f+1) (.assigned n) (Zs i u 1 fl ne ar)= .ok n (Zs i u 1 fl ne ar):=by
 show aj8 s (runQ s m f) n _=_
 unfold aj8
 rw [if_neg hk,PM.go (ac1 (by decide)),if_neg (by rw [ha];decide)]
 rfl
theorem aC2 {α:Type} {x:PM α} {i':Int} {u':Tk} {g' fl' ar' place:Int} {a:α} (h0:0≤ne) (h1:ne<4000) (hx:x (Zs i u g fl (ne+1) ar)= .ok a (@Zs C' i' u' g' fl' (ne+1) ar')):ag4 place x (Zs i u g fl ne ar)= .ok a (@Zs C' i' u' g' fl' ne ar'):=by
 unfold ag4
 show(if 4000≤ne then _ else _)=_
 rw [if_neg (by omega)]
 show PM.bind x _ (Zs i u g fl (ne+1) ar)=_
 unfold PM.bind
 rw [hx]
 show(if ne+1≤0 then _ else _)=_
 rw [if_neg (by omega)]
 show Res.ok a (@Zs C' _ _ _ _ (ne+1 - 1) _)=_
 rw [Int.add_sub_cancel]
 rfl
theorem ah8 (ha:runQ s m f .assign p= .ok n (Zs i u 1 fl ne ar)) (hc:punctT u ⟨#[44]⟩=false):runQ s m (f+1) .expression p= .ok n (Zs i u 1 fl ne ar):=by
 show ag8 s f (runQ s m f) p=_
 unfold ag8
 rw [PM.go ha,PM.go (ac1 (by decide)),if_neg (by rw [hc];decide)]
 rfl
end
end
section
open Go.RowKit
section
variable {s:ByteArray} {p:Nat}
def Ink0 (l:List UInt8):Prop:=ap9 l=false∧∀p,ae0 p l=0
theorem bh9 {c:UInt8} {l:List UInt8} (h1:33≤c.toNat) (h2:c.toNat<127) (h3:c≠47) (h4:c≠35):Ink0 (c::l):=by
 refine⟨(bH3 h1 h2 h3 h4).1,fun p=> ?_⟩
 unfold ae0
 rw [if_neg (by rw [ad7 h3];decide),if_neg (by rw [ad7 h3];decide),if_neg (by rw [ad7 h4];simp)]
end
theorem aw4 {g:Int} {c:UInt8} {l:List UInt8} {n:Nat} (hc:bH9 c=true) (h47:c≠47) (hp:pct g (c::l)=n) (hn:n≠0):ah6 g (c::l)= .fine 5 n:=by
 unfold bH9 at hc
 rw [Bool.and_eq_true,Bool.and_eq_true,decide_eq_true_eq,decide_eq_true_eq,Bool.not_eq_true'] at hc
 obtain⟨⟨h1,h2⟩,h3,h4,h5,h6,h7,h8⟩:=hc
 have hdig:ai8 (c::l)=false:=by
  unfold ai8
  rw [decide_eq_false_iff_not]
  exact h8
 have hname:am6 false (c::l)=0:=by
  unfold am6
  rw [af4 _ _ h1,if_neg]
  rintro⟨_,h⟩
  simp only at h
  rw [h2] at h
  cases h
 unfold ah6
 rw [if_neg (by simp),if_neg (by rw [ad7 h3];decide),if_neg (by rw [ad7 h4];decide),if_neg (by rw [hdig,ad7 h5];simp),if_neg (by rw [ad7 h6,ad7 h7];simp),if_neg (by rintro⟨_,h⟩;rw [ad7 h47] at h;cases h),if_neg (by rw [hname];simp),hp,if_pos hn]
theorem bk8 {g:Int} {c:UInt8} {l:List UInt8} (h:c≠47):pct g (c::l)=match ak5.find? (aB7 (c::l)) with|some w=>w.length|none=>0:=by
 unfold pct
 rw [if_neg (by rintro⟨_,h1⟩;rw [ad7 h] at h1;cases h1),if_neg (by rintro⟨_,h1⟩;rw [ad7 h] at h1;cases h1)]
 rfl
end
end Go.Proofs.YtcgbkjhoifhnnaaGreatDoor
