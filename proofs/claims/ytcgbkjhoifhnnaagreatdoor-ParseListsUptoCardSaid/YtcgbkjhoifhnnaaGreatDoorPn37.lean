/- Steps (Tk OpP Lx OpL OpE Ly). Conditions: as stated. -/
import Derived.Test.YtcgbkjhoifhnnaaGreatDoorPn09
namespace Go.Proofs.YtcgbkjhoifhnnaaGreatDoor
section
open Go.RowKit
class CsC where
 cs:List (Int × Int)
instance (priority:=low) CsC.none:CsC:=⟨[]⟩
def Zs [C:CsC] (i:Int) (t:Tk) (g fl ne ar:Int):Ps:=⟨i,t,[],g,[],fl,ne,ar,C.cs⟩
def Sees (s:ByteArray) (g:Int) (i:Int) (t:Tk):Prop:=0≤i∧i≤(s.size:Int)∧∃q n,nxt s i.toNat g= .fine t.kind q n t.line []∧tkOf s t.kind q n t.line=t
def aI8 (t:Tk):Bool:=Lib.hasPrefix t.text.data.toList [47]
theorem PM.go {α β:Type} {x:PM α} {f:α→PM β} {p q:Ps} {a:α} (h:x p= .ok a q):(x>>=f) p=f a q:=by
 show PM.bind x f p=_
 unfold PM.bind
 rw [h]
section
variable {s:ByteArray} {g g' i fl ne ar:Int} {t tk:Tk}
theorem bw9 (h:Sees s 1 i t) (p:Ps):ax2 s i p= .ok t p:=by
 obtain⟨h0,h1,q,n,h2,h3⟩:=h
 unfold ax2 bj7
 rw [if_neg (by omega),h2]
 simp only
 rw [h3]
 rfl
variable {C':CsC} [C:CsC]
theorem ad2 (h:Sees s g i t):ab5 s g (Zs i tk 0 fl ne ar)= .ok t (Zs i t g fl ne ar):=by
 obtain⟨h0,h1,q,n,h2,h3⟩:=h
 unfold ab5 am7 Zs
 rw [if_neg (by simp)]
 unfold aY5
 simp only
 rw [if_neg (by omega),h2]
 simp only
 rw [h3]
theorem ab6 (hg:g≠0):ab5 s g (Zs i t g fl ne ar)= .ok t (Zs i t g fl ne ar):=by
 unfold ab5 am7 Zs
 rw [if_pos (by simp [hg])]
theorem aK8 (h1:g'≠0) (h2:g'≤2) (h3:g≤2) (hs:aI8 t=false):ab5 s g (Zs i t g' fl ne ar)= .ok t (Zs i t g' fl ne ar):=by
 unfold aI8 at hs
 unfold ab5 am7 Zs
 rw [if_pos (by simp [h1,h2,h3,hs])]
theorem as0:af1 (Zs i t g fl ne ar)= .ok t (Zs t.till t 0 fl ne ar):=rfl
theorem bz7 {x:ByteArray} (hp:ab5 s 1 (Zs i tk g' fl ne ar)= .ok t (Zs i t g fl ne ar)) (h:punctT t x=false):isP s x (Zs i tk g' fl ne ar)= .ok false (Zs i t g fl ne ar):=by
 unfold isP
 rw [PM.go hp,if_neg (by rw [h];decide)]
 rfl
theorem bG1 {x:ByteArray} (hp:ab5 s 1 (Zs i tk g' fl ne ar)= .ok t (Zs i t g fl ne ar)) (h:punctT t x=true):isP s x (Zs i tk g' fl ne ar)= .ok true (Zs t.till t 0 fl ne ar):=by
 unfold isP
 rw [PM.go hp,if_pos h]
 rfl
theorem aB7 {x:ByteArray} (hp:ab5 s 1 (Zs i tk g' fl ne ar)= .ok t (Zs i t g fl ne ar)) (h:punctT t x=true):at6 s x (Zs i tk g' fl ne ar)= .ok t (Zs t.till t 0 fl ne ar):=by
 unfold at6
 rw [PM.go hp,if_pos h]
 rfl
end
structure Nm (t:Tk):Prop where
 kind:t.kind=1
 res:aj1 t.text resW=false
 aw:t.text≠⟨#[97,119,97,105,116]⟩
 asy:t.text≠⟨#[97,115,121,110,99]⟩
 sl:aI8 t=false
theorem bt5 {t:ByteArray} {l:List ByteArray} (h:aj1 t l=false) {x:ByteArray} (hx:aj1 x l=true):t≠x:=by
 rintro rfl
 rw [h] at hx
 cases hx
theorem Nm.ne {t:Tk} (h:Nm t) {x:ByteArray} (hx:aj1 x resW=true):t.text≠x:=bt5 h.res hx
theorem Nm.nameT {t:Tk} (h:Nm t) {x:ByteArray} (hx:aj1 x resW=true):nameT t x=false:=by
 unfold Go.Proofs.YtcgbkjhoifhnnaaGreatDoor.nameT
 rw [decide_eq_false (h.ne hx),Bool.and_false]
theorem Nm.punctT {t:Tk} (h:Nm t) (x:ByteArray):punctT t x=false:=by
 unfold Go.Proofs.YtcgbkjhoifhnnaaGreatDoor.punctT
 rw [h.kind]
 rfl
theorem Nm.ident {t:Tk} (h:Nm t) (m:Bool) (fl:Int):ai8 m fl t=true:=by
 unfold ai8 aa0
 rw [if_neg h.aw,h.res,h.kind,decide_eq_true h.aw]
 simp
theorem ap8 {t:Tk} {x:ByteArray} (h:t.text≠x):nameT t x=false:=by
 unfold nameT
 rw [decide_eq_false h,Bool.and_false]
theorem av1 {t:Tk} {x:ByteArray} (h:t.kind≠5):punctT t x=false:=by
 unfold punctT
 rw [decide_eq_false h,Bool.false_and]
theorem ay2 {t:Tk} {x:ByteArray} (h:t.text≠x):punctT t x=false:=by
 unfold punctT
 rw [decide_eq_false h,Bool.and_false]
theorem bc4 {t:Tk} {x:ByteArray} (h:t.kind≠1):nameT t x=false:=by
 unfold nameT
 rw [decide_eq_false h,Bool.false_and]
structure Endy (u:Tk):Prop where
 dot:punctT u ⟨#[46]⟩=false
 brk:punctT u ⟨#[91]⟩=false
 par:punctT u ⟨#[40]⟩=false
 opt:punctT u ⟨#[63,46]⟩=false
 k7:u.kind≠7
 k8:u.kind≠8
 inc:punctT u ⟨#[43,43]⟩=false
 dec:punctT u ⟨#[45,45]⟩=false
section
variable {s:ByteArray} {m:Bool} {g i fl ne ar:Int} {t u tk:Tk}
theorem aC9 (p:Ps):getP p= .ok p p:=rfl
theorem aH4 (t:Tk): ¬(ad6 1 t).kind=22:=by
 show¬(1:Int)=22
 decide
variable {C':CsC} [C:CsC]
theorem bB3 (f:Nat) (h:Nm t) (hg:g=1∨g=2):runQ s m (f+1) (.named t) (Zs i t g fl ne ar)= .ok (ad6 1 t) (Zs t.till t 0 fl ne ar):=by
 show aE1 s m (runQ s m f) t _=_
 have h1:aj1 t.text [⟨#[116,104,105,115]⟩,⟨#[110,117,108,108]⟩,⟨#[116,114,117,101]⟩,⟨#[102,97,108,115,101]⟩]=false:=by
  unfold aj1
  rw [List.any_eq_false]
  intro x hx
  simp only [List.mem_cons,List.not_mem_nil,or_false] at hx
  rcases hx with rfl|rfl|rfl|rfl<;>(rw [decide_eq_false (h.ne (by decide))];decide)
 unfold aE1
 rw [if_neg (by rw [h1];decide),if_neg (h.ne (by decide)),if_neg (h.ne (by decide)),if_neg h.asy]
 unfold ak6
 have hp:ab5 s 1 (Zs i t g fl ne ar)= .ok t (Zs i t g fl ne ar):=aK8 (by omega) (by omega) (by omega) h.sl
 rw [PM.go hp]
 show(if ai8 m fl t then _ else _:PM Nd) _=_
 rw [if_pos (h.ident m fl),PM.go as0]
 rfl
theorem bw0 (f:Nat) (h:Nm t) (hg:g=1∨g=2) (calls:Bool):runQ s m (f+3) (.base t calls) (Zs i t g fl ne ar)= .ok (ad6 1 t) (Zs t.till t 0 fl ne ar):=by
 show aC3 s m (runQ s m (f+2)) t calls _=_
 unfold aC3
 rw [if_neg (by rw [h.nameT (by decide)];decide),if_neg (by rw [h.nameT (by decide)];decide),if_neg (by rw [h.nameT (by decide)];decide)]
 show aj4 (runQ s m (f+1)) t _=_
 have hk:=h.kind
 unfold aj4
 rw [if_neg (by omega),if_neg (by omega),if_neg (by omega),if_pos hk]
 exact bB3 f h hg
theorem aS3 (f:Nat) (n:Nd) (calls tmpl:Bool) (hu:Endy u) (hp:ab5 s 1 (Zs i tk g fl ne ar)= .ok u (Zs i u 1 fl ne ar)):runQ s m (f+1) (.link n calls tmpl) (Zs i tk g fl ne ar)= .ok (n,false) (Zs i u 1 fl ne ar):=by
 show aK5 s (runQ s m f) n calls tmpl _=_
 unfold aK5
 rw [PM.go hp,if_neg (by rw [hu.dot];decide),if_neg (by rw [hu.brk];decide),if_neg (by rw [hu.par];simp),if_neg (by have:=hu.k7;have:=hu.k8;omega)]
 rfl
theorem an3 (hg:g=1∨g=2) (hs:aI8 t=false) {g2:Int} (h2:g2≤2):ab5 s g2 (Zs i t g fl ne ar)= .ok t (Zs i t g fl ne ar):=aK8 (by omega) (by omega) h2 hs
theorem bG4 (f:Nat) {p:Ps} (h:Nm t) (hg:g=1∨g=2) (hp:ab5 s 2 p= .ok t (Zs i t g fl ne ar)) (hu:Endy u) (hs:Sees s 1 t.till u):
  runQ s m (f+4) .leftHand p= .ok (ad6 1 t) (Zs t.till u 1 fl ne ar):=by
 show ad4 s (f+3) (runQ s m (f+3)) p=_
 unfold ad4
 rw [PM.go hp,PM.go (aC9 _)]
 show(runQ s m (f+3) (.base t true)>>=_) _=_
 rw [PM.go (bw0 f h hg true),if_neg (aH4 t),if_neg (by rw [show decide ((ad6 1 t).text=⟨#[97,115,121,110,99]⟩)=false from decide_eq_false h.asy];simp)]
 unfold ad4.linkL
 rw [PM.go (ad2 hs),if_neg (by rw [hu.opt];decide),PM.go (aS3 (f+2) (ad6 1 t) true true hu (ab6 (by decide))),if_neg (show¬((false:Bool)=true) by decide)]
 rfl
theorem bE1 (f:Nat) {p:Ps} (h:Nm t) (hg:g=1∨g=2) (hp:ab5 s 2 p= .ok t (Zs i t g fl ne ar)) (hu:Endy u) (hs:Sees s 1 t.till u):
  runQ s m (f+5) .unary p= .ok (ad6 1 t) (Zs t.till u 1 fl ne ar):=by
 show ay8 s (runQ s m (f+4)) p=_
 unfold ay8
 rw [PM.go hp,if_neg (by rw [h.nameT (by decide),h.nameT (by decide),h.nameT (by decide),h.punctT,h.punctT,h.punctT,h.punctT];decide),PM.go (aC9 _),if_neg (by rw [ap8 h.aw];simp),if_neg (by rw [h.punctT,h.punctT];decide),PM.go (bG4 f h hg (an3 hg h.sl (by decide)) hu hs),if_neg (aH4 t),PM.go (ab6 (by decide)),if_neg (by rw [hu.inc,hu.dec];simp)]
 rfl
theorem bk7 (f:Nat) (least:Int) {p:Ps} (h:Nm t) (hg:g=1∨g=2) (hp:ab5 s 2 p= .ok t (Zs i t g fl ne ar)) (hu:Endy u) (hs:Sees s 1 t.till u):
  runQ s m (f+6) (.operand least) p= .ok (ad6 1 t) (Zs t.till u 1 fl ne ar):=by
 show am1 s (runQ s m (f+5)) least p=_
 unfold am1
 rw [PM.go hp,if_pos (by rw [h.kind];decide)]
 exact bE1 f h hg (an3 hg h.sl (by decide)) hu hs
end
end
section
open Go.RowKit
structure Opr (o:Tk):Prop where
 op:(decide (o.kind≠5) && !nameT o ⟨#[105,110,115,116,97,110,99,101,111,102]⟩ && !nameT o ⟨#[105,110]⟩)=false
 lo:2≤ac8 o.text
 hi:ac8 o.text≤12
 star:ac8 o.text=12↔o.text=⟨#[42,42]⟩
 e:Endy o
structure Stp (u:Tk):Prop where
 op:(decide (u.kind≠5) && !nameT u ⟨#[105,110,115,116,97,110,99,101,111,102]⟩ && !nameT u ⟨#[105,110]⟩)=true∨ac8 u.text=0
 e:Endy u
section
variable {s:ByteArray}
def Row (s:ByteArray):Int→List (Tk × Tk)→Tk→Prop
 |i,[],e=>Sees s 1 i e
 |i,x::l,e=>Sees s 1 i x.1∧Opr x.1∧Sees s 2 x.1.till x.2∧Nm x.2∧Row s x.2.till l e
def bG2:Tk→List (Tk × Tk)→Tk
 |v,[]=>v
 |_,x::l=>bG2 x.2 l
def bJ3:List (Tk × Tk)→Tk→Tk
 | [],e=>e
 |x::_,_=>x.1
theorem Row.drop {e:Tk} : ∀ {a b:List (Tk × Tk)} {v:Tk},Row s v.till (a++b) e→Row s (bG2 v a).till b e
 | [],_,_,h=>h
 |x::a,_,_,h=>Row.drop (a:=a) (v:=x.2) h.2.2.2.2
theorem Row.head {l:List (Tk × Tk)} {i:Int} {e:Tk} (h:Row s i l e):Sees s 1 i (bJ3 l e):=by
 cases l with
 |nil=>exact h
 |cons x l=>exact h.1
theorem az0 (t:Tk):ac5 (ad6 1 t)= .mk 1 t.text [] 0 0:=by
 unfold ad6
 rw [ac5,if_neg (by decide),af2]
variable {m:Bool}
theorem aS8 [C:CsC] {i ne ar:Int} {u:Tk} (h:Stp u): ∃r:Tk × Int,r.2=0∧aj2 s (Zs i u 1 1 ne ar)= .ok r (Zs i u 1 1 ne ar):=by
 unfold aj2
 rw [PM.go (ab6 (by decide)),PM.go (aC9 _)]
 have h2:hasF 1 1=true:=by decide
 show∃r:Tk × Int,r.2=0∧(if (decide (u.kind≠5) && !nameT u ⟨#[105,110,115,116,97,110,99,101,111,102]⟩ && (!nameT u ⟨#[105,110]⟩|| !hasF 1 1))=true then _ else _:PM (Tk × Int)) _=_
 rw [h2,Bool.not_true,Bool.or_false]
 rcases h.op with h1|h1
 ·rw [if_pos h1]
  exact⟨_,rfl,rfl⟩
 ·split
  ·exact⟨_,rfl,rfl⟩
  ·exact⟨_,h1,rfl⟩
end
end
section
open Go.RowKit
section
variable {s:ByteArray} {p:Nat}
theorem aL8 {c:UInt8} {l:List UInt8} (hd:s.data.toList.drop p=c::l):p<s.size:=by
 have h:=congrArg List.length hd
 rw [List.length_drop,List.length_cons] at h
 show p<s.data.size
 rw [←Array.length_toList]
 omega
theorem ak7 {c:UInt8} {l:List UInt8} (hd:s.data.toList.drop p=c::l):s.data.toList.drop (p+1)=l:=by
 rw [←List.drop_drop,hd]
 rfl
theorem as3 {a l:List UInt8} (hd:s.data.toList.drop p=a++l):s.data.toList.drop (p+a.length)=l:=by
 rw [←List.drop_drop,hd,List.drop_left]
theorem bD9 {a l:List UInt8} (hd:s.data.toList.drop p=a++l) (hp:p≤s.size):p+a.length≤s.size:=by
 have h:=congrArg List.length hd
 rw [List.length_drop,List.length_append] at h
 have h2:s.data.toList.length=s.size:=Array.length_toList
 omega
theorem ba5 {a l:List UInt8} (hd:s.data.toList.drop p=a++l):s.extract p (p+a.length)=⟨a.toArray⟩:=by
 apply bf4
 rw [ByteArray.data_extract,Array.toList_extract,List.extract_eq_take_drop,hd,Nat.add_sub_cancel_left,List.take_left]
def Ink (l:List UInt8):Prop:=aw8 l=false∧∀p,0<p→ac9 p l=0
theorem bg0 {l:List UInt8} {line:Bool} (hd:s.data.toList.drop p=l) (hp:p≤s.size) (h:aw8 l=false∧ac9 p l=0):btw s p line= .fine p line []:=by
 rw [aY3 s p line hp,hd,if_neg (by rw [h.1];decide),if_pos h.2]
theorem bx0 {g:Int} (hg:g=1∨g=2) {q:Nat} {line:Bool} {kind:Int} {n:Nat} (hb:btw s p false= .fine q line []) (ht:ai1 g (s.data.toList.drop q)= .fine kind n):nxt s p g= .fine kind q n line []:=by
 unfold nxt tokT
 rcases hg with rfl|rfl<;>
 ·rw [if_neg (by rintro(h|h|⟨h,_⟩)<;>omega),if_neg (by decide),hb]
  simp only
  rw [if_neg (by decide),if_neg (by decide),if_neg (by decide),ht]
def endT (p:Nat):Tk:=⟨0,⟨#[]⟩,p,p,false⟩
theorem aL5 {g:Int} (hg:g=1∨g=2) (hd:s.data.toList.drop p= []) (hp:p≤s.size):Sees s g p (endT p):=by
 refine⟨by omega,by omega,p,0,?_,?_⟩
 ·rw [Int.toNat_natCast]
  refine bx0 hg (bg0 hd hp ⟨rfl,?_⟩) ?_
  ·unfold ac9
   rw [if_neg (by decide),if_neg (by decide),if_neg (by simp [Lib.hasPrefix])]
  ·rw [hd]
   rfl
 ·unfold tkOf endT
  have:s.extract p (p+0)=⟨#[]⟩:=ba5 (a:= []) (l:= []) hd
  rw [this]
  simp
end
def aG2 (c:UInt8):Bool:=decide (c.toNat<128) && au8 (c.toNat:Int)
theorem aH8 {l:List UInt8} (hl:an6 false l=false): ∀(a:List UInt8),(∀c ∈ a,aG2 c=true)→ag1 false (a++l)=a.length
 | [],_=>aE6 hl
 |c::a,h=>by
  have hc:=h c (.head _)
  unfold aG2 at hc
  rw [Bool.and_eq_true,decide_eq_true_eq] at hc
  have hg:an6 false (c::(a++l))=true:=by
   unfold an6
   rw [am0 _ _ hc.1,hc.2]
   rfl
  rw [List.cons_append,as9 hg,am0 _ _ hc.1]
  show 1+ag1 false (a++l)=_
  rw [aH8 hl a (fun c hc=>h c (.tail _ hc)),List.length_cons]
  omega
theorem bj9 {c:UInt8} {a l:List UInt8} (hc:c.toNat<128) (hs:ae3 (c.toNat:Int)=true) (ha: ∀c ∈ a,aG2 c=true) (hl:an6 false l=false):al6 false (c::(a++l))=a.length+1:=by
 have hw: ∀x ∈ c::a,aG2 x=true:=by
  intro x hx
  rcases List.mem_cons.1 hx with rfl|hx
  ·unfold aG2 au8
   rw [decide_eq_true hc,hs]
   rfl
  ·exact ha x hx
 unfold al6
 rw [am0 _ _ hc,if_pos ⟨show (0:Int)<1 by decide,hs⟩,←List.cons_append,aH8 hl _ hw,List.length_cons]
@[reducible] def low (c:UInt8):Prop:=97≤c.toNat∧c.toNat≤122
theorem af8 {c d:UInt8} {l w:List UInt8} (h:c≠d):Lib.hasPrefix (c::l) (d::w)=false:=by
 unfold Lib.hasPrefix
 rw [List.isPrefixOf_cons_cons,beq_eq_false_iff_ne.2 (Ne.symm h),Bool.false_and]
theorem az4 {g:Int} {c:UInt8} {a l:List UInt8} (hlo:low c) (hs:ae3 (c.toNat:Int)=true) (ha: ∀c ∈ a,aG2 c=true) (hl:an6 false l=false) (hl2:0≤(nx l).2):
  ai1 g (c::a++l)= .fine 1 (c::a).length:=by
 obtain⟨h1,h2⟩:=hlo
 have hn: ∀d:UInt8,d.toNat<97→c≠d:=by rintro d hd rfl;omega
 have hdig:ai4 (c::(a++l))=false:=by
  unfold ai4
  rw [decide_eq_false_iff_not]
  omega
 have hw:=bj9 (l:=l) (by omega) hs ha hl
 rw [List.cons_append]
 unfold ai1
 rw [if_neg (by simp),if_neg (by rw [af8 (hn _ (by decide))];decide),if_neg (by rw [af8 (hn _ (by decide))];decide),if_neg (by rw [hdig,af8 (hn 46 (by decide))];simp),if_neg (by rw [af8 (hn _ (by decide)),af8 (hn _ (by decide))];simp),if_neg (by rw [af8 (hn _ (by decide))];simp),hw,if_pos (by omega)]
 unfold aft
 rw [show (c::(a++l)).drop (a.length+1)=l by rw [List.drop_succ_cons,List.drop_left],if_neg (by omega),List.length_cons]
theorem bo0 {f:Nat→Bool} {m:Nat} (h:(List.range m).all f=true) (n:Nat) (hn:n<m):f n=true:=List.all_eq_true.1 h n (List.mem_range.2 hn)
theorem bz4:(List.range 127).all (fun n=>decide (n<33)|| !(ao3 (n:Int)||at8 (n:Int)))=true:=by kernel_rfl
theorem bB1:(List.range 127).all (fun n=>decide (n<97∨122<n)||ae3 (n:Int))=true:=by kernel_rfl
theorem by8:(List.range 127).all (fun n=>decide (n<48∨57<n)||au8 (n:Int))=true:=by kernel_rfl
theorem bF8 {c:UInt8} {l:List UInt8} (h1:33≤c.toNat) (h2:c.toNat<127) (h3:c≠47) (h4:c≠35):Ink (c::l):=by
 refine⟨?_,fun p hp=> ?_⟩
 ·unfold aw8
  rw [am0 _ _ (by omega)]
  show(decide ((0:Int)<1) && (ao3 (c.toNat:Int)||at8 (c.toNat:Int)))=false
  have h:=(Bool.or_eq_true _ _).mp (bo0 bz4 c.toNat h2)
  rw [Bool.not_eq_true',decide_eq_true_eq] at h
  rw [h.resolve_left (by omega),Bool.and_false]
 ·unfold ac9
  rw [if_neg (by rw [af8 h3];decide),if_neg (by rw [af8 h3];decide),if_neg (by rw [af8 h4];simp)]
theorem ax3 {c:UInt8} (h:low c):ae3 (c.toNat:Int)=true:=by
 obtain⟨h1,h2⟩:=h
 have h:=bo0 bB1 c.toNat (by omega)
 simp only [Bool.or_eq_true,decide_eq_true_eq] at h
 exact h.resolve_left (by omega)
theorem bp9 {c:UInt8} (h:48≤c.toNat∧c.toNat≤57):aG2 c=true:=by
 have h3:=bo0 by8 c.toNat (by omega)
 simp only [Bool.or_eq_true,decide_eq_true_eq] at h3
 unfold aG2
 rw [h3.resolve_left (by omega),decide_eq_true (show c.toNat<128 by omega)]
 rfl
theorem bs9 {c:UInt8} (h:low c):aG2 c=true:=by
 unfold aG2 au8
 rw [ax3 h,Bool.true_or,decide_eq_true (show c.toNat<128 by have:=h.2;omega)]
 rfl
end
section
open Go.RowKit
def bB2 (c:UInt8):Bool:=decide (c.toNat<128) && !ae3 (c.toNat:Int) && decide (c≠96∧c≠35∧c≠46∧c≠39∧c≠34∧¬(48≤c.toNat∧c.toNat≤57))
def Dg (d:List UInt8):Prop:=d≠ []∧∀c ∈ d,48≤c.toNat∧c.toNat≤57
def dg2 (x:UInt8):Bool:=decide (48≤x.toNat∧x.toNat≤57)
theorem v_nm {d:List UInt8} (hd:Dg d) (a b:Int) (line:Bool):Nm ⟨1,⟨(118::d).toArray⟩,a,b,line⟩:=by
 obtain⟨h0,h⟩:=hd
 cases d with
 |nil=>exact absurd rfl h0
 |cons c d=>
  have hc:=h c (.head _)
  have key:(resW.all fun x=>match x.data.toList with|_::y::_=> !dg2 y|_=>true)=true:=by decide
  have kw: ∀x:ByteArray,(match x.data.toList with|_::y::_=> !dg2 y|_=>true)=true→(⟨(118::c::d).toArray⟩:ByteArray)≠x:=by
   rintro x hx rfl
   simp only [dg2,decide_eq_true hc] at hx
   cases hx
  refine⟨rfl,?_,kw _ (by decide),kw _ (by decide),rfl⟩
  unfold aj1
  rw [List.any_eq_false]
  intro x hx
  have:=List.all_eq_true.1 key x hx
  have:=kw x this
  simp only [decide_eq_true_eq]
  exact this
def row2 (x:List UInt8 × List UInt8):ByteArray × ByteArray:=(⟨x.1.toArray⟩,⟨(118::x.2).toArray⟩)
theorem by9 (p:Nat):Stp (endT p):=⟨.inr rfl,⟨rfl,rfl,rfl,rfl,(show¬(0:Int)=7 by decide),(show¬(0:Int)=8 by decide),rfl,rfl⟩⟩
end
section
open Go.RowKit
section
variable {s:ByteArray} {m:Bool} {i g fl ne ar:Int} {u v:Tk} {n:Nd} {p:Ps} {f:Nat}
variable {C':CsC} [C:CsC]
theorem bw4 (hb:runQ s m f (.binary 1 false) p= .ok n (Zs i u 1 fl ne ar)) (hk:n.kind≠22) (hq:punctT u ⟨#[63]⟩=false):runQ s m (f+1) .cond p= .ok n (Zs i u 1 fl ne ar):=by
 show aR5 s (runQ s m f) p=_
 unfold aR5
 rw [PM.go hb,if_neg hk,PM.go (bz7 (ab6 (by decide)) hq),if_neg (by decide)]
 rfl
theorem aG6 (hk:n.kind≠22) (ha:ah6 u=false):runQ s m (f+1) (.assigned n) (Zs i u 1 fl ne ar)= .ok n (Zs i u 1 fl ne ar):=by
 show am6 s (runQ s m f) n _=_
 unfold am6
 rw [if_neg hk,PM.go (ab6 (by decide)),if_neg (by rw [ha];decide)]
 rfl
theorem bp7 {α:Type} {x:PM α} {i':Int} {u':Tk} {g' fl' ar' place:Int} {a:α} (h0:0≤ne) (h1:ne<4000) (hx:x (Zs i u g fl (ne+1) ar)= .ok a (@Zs C' i' u' g' fl' (ne+1) ar')):ag4 place x (Zs i u g fl ne ar)= .ok a (@Zs C' i' u' g' fl' ne ar'):=by
 unfold ag4
 show(if 4000≤ne then _ else _)=_
 rw [if_neg (by omega)]
 show PM.bind x _ (Zs i u g fl (ne+1) ar)=_
 unfold PM.bind
 rw [hx]
 show(if ne+1≤0 then _ else _)=_
 rw [if_neg (by omega)]
 show Res.ok a (@Zs C' _ _ _ _ (ne+1 - 1) _)=_
 rw [Int.add_sub_cancel]
 rfl
theorem ar0 (ha:runQ s m f .assign p= .ok n (Zs i u 1 fl ne ar)) (hc:punctT u ⟨#[44]⟩=false):runQ s m (f+1) .expression p= .ok n (Zs i u 1 fl ne ar):=by
 show af6 s f (runQ s m f) p=_
 unfold af6
 rw [PM.go ha,PM.go (ab6 (by decide)),if_neg (by rw [hc];decide)]
 rfl
theorem bh9 (he:runQ s m f .expression (ps0 m)= .ok n (Zs i u 1 fl ne ar)) (hu:u.kind=0) (hn:an2 n=true) (hz:aa1 n≤8000):aA6 s m f= .ok n (Zs i u 1 fl ne ar):=by
 have hd:=bh1 n
 unfold aA6 az5 aH1
 rw [PM.go (show _=Res.ok n (Zs i u 1 fl ne ar) by rw [PM.go he,PM.go (ab6 (by decide)),if_pos hu];rfl),if_neg (by rw [hn];decide),if_neg (by omega),if_neg (by omega)]
 rfl
end
end
section
open Go.RowKit
section
variable {s:ByteArray} {p:Nat}
def Ink0 (l:List UInt8):Prop:=aw8 l=false∧∀p,ac9 p l=0
theorem aD3 {c:UInt8} {l:List UInt8} (h1:33≤c.toNat) (h2:c.toNat<127) (h3:c≠47) (h4:c≠35):Ink0 (c::l):=by
 refine⟨(bF8 h1 h2 h3 h4).1,fun p=> ?_⟩
 unfold ac9
 rw [if_neg (by rw [af8 h3];decide),if_neg (by rw [af8 h3];decide),if_neg (by rw [af8 h4];simp)]
theorem ay5 {g:Int} (hg:g=1∨g=2) {a l:List UInt8} {kind:Int} (hd:s.data.toList.drop p=a++l) (hp:p≤s.size) (hi:Ink0 (a++l)) (ht:ai1 g (a++l)= .fine kind a.length):
  Sees s g p ⟨kind,⟨a.toArray⟩,(p:Int),((p+a.length:Nat):Int),false⟩:=by
 refine⟨by omega,by omega,p,a.length,?_,?_⟩
 ·rw [Int.toNat_natCast]
  refine bx0 hg (bg0 hd hp ⟨hi.1,hi.2 _⟩) ?_
  rw [hd]
  exact ht
 ·unfold tkOf
  rw [ba5 hd]
end
theorem aT1 {g:Int} {c:UInt8} {l:List UInt8} {n:Nat} (hc:bB2 c=true) (h47:c≠47) (hp:pct g (c::l)=n) (hn:n≠0):ai1 g (c::l)= .fine 5 n:=by
 unfold bB2 at hc
 rw [Bool.and_eq_true,Bool.and_eq_true,decide_eq_true_eq,decide_eq_true_eq,Bool.not_eq_true'] at hc
 obtain⟨⟨h1,h2⟩,h3,h4,h5,h6,h7,h8⟩:=hc
 have hdig:ai4 (c::l)=false:=by
  unfold ai4
  rw [decide_eq_false_iff_not]
  exact h8
 have hname:al6 false (c::l)=0:=by
  unfold al6
  rw [am0 _ _ h1,if_neg]
  rintro⟨_,h⟩
  simp only at h
  rw [h2] at h
  cases h
 unfold ai1
 rw [if_neg (by simp),if_neg (by rw [af8 h3];decide),if_neg (by rw [af8 h4];decide),if_neg (by rw [hdig,af8 h5];simp),if_neg (by rw [af8 h6,af8 h7];simp),if_neg (by rintro⟨_,h⟩;rw [af8 h47] at h;cases h),if_neg (by rw [hname];simp),hp,if_pos hn]
theorem bx5 {g:Int} {c:UInt8} {l:List UInt8} (h:c≠47):pct g (c::l)=match ah3.find? (ax8 (c::l)) with|some w=>w.length|none=>0:=by
 unfold pct
 rw [if_neg (by rintro⟨_,h1⟩;rw [af8 h] at h1;cases h1),if_neg (by rintro⟨_,h1⟩;rw [af8 h] at h1;cases h1)]
 rfl
end
end Go.Proofs.YtcgbkjhoifhnnaaGreatDoor
