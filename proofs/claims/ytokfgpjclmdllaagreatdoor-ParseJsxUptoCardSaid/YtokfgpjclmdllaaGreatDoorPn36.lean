/- Steps (Tk OpP Lx OpL OpE Ly). Conditions: as stated. -/
import Derived.Test.YtokfgpjclmdllaaGreatDoorPn09
namespace Go.Proofs.YtokfgpjclmdllaaGreatDoor
section
open Go.RowKit
def Zs (i:Int) (t:Tk) (g fl ne ar:Int):Ps:=⟨i,t,[],g,[],fl,ne,ar,[]⟩
def Sees (s:ByteArray) (g:Int) (i:Int) (t:Tk):Prop:=0≤i∧i≤(s.size:Int)∧∃q n,nxt s i.toNat g= .fine t.kind q n t.line []∧tkOf s t.kind q n t.line=t
def aQ0 (t:Tk):Bool:=Lib.hasPrefix t.text.data.toList [47]
theorem PM.go {α β:Type} {x:PM α} {f:α→PM β} {p q:Ps} {a:α} (h:x p= .ok a q):(x>>=f) p=f a q:=by
 show PM.bind x f p=_
 unfold PM.bind
 rw [h]
section
variable {s:ByteArray} {g g' i fl ne ar:Int} {t tk:Tk}
theorem ad6 (h:Sees s g i t):ab4 s g (Zs i tk 0 fl ne ar)= .ok t (Zs i t g fl ne ar):=by
 obtain⟨h0,h1,q,n,h2,h3⟩:=h
 unfold ab4 am9 Zs
 rw [if_neg (by simp)]
 unfold aZ6
 simp only
 rw [if_neg (by omega),h2]
 simp only
 rw [h3]
theorem ac3 (hg:g≠0):ab4 s g (Zs i t g fl ne ar)= .ok t (Zs i t g fl ne ar):=by
 unfold ab4 am9 Zs
 rw [if_pos (by simp [hg])]
theorem aU1 (h1:g'≠0) (h2:g'≤2) (h3:g≤2) (hs:aQ0 t=false):ab4 s g (Zs i t g' fl ne ar)= .ok t (Zs i t g' fl ne ar):=by
 unfold aQ0 at hs
 unfold ab4 am9 Zs
 rw [if_pos (by simp [h1,h2,h3,hs])]
theorem as3:ad9 (Zs i t g fl ne ar)= .ok t (Zs t.till t 0 fl ne ar):=rfl
theorem bG4 (h:Sees s 1 i t) (p:Ps):az1 s i p= .ok t p:=by
 obtain⟨h0,h1,q,n,h2,h3⟩:=h
 unfold az1 bj9
 rw [if_neg (by omega),h2]
 simp only
 rw [h3]
 rfl
theorem bJ8 {x:ByteArray} (hp:ab4 s 1 (Zs i tk g' fl ne ar)= .ok t (Zs i t g fl ne ar)) (h:punctT t x=false):isP s x (Zs i tk g' fl ne ar)= .ok false (Zs i t g fl ne ar):=by
 unfold isP
 rw [PM.go hp,if_neg (by rw [h];decide)]
 rfl
theorem bb6 {x:ByteArray} (hp:ab4 s 1 (Zs i tk g' fl ne ar)= .ok t (Zs i t g fl ne ar)) (h:punctT t x=true):as6 s x (Zs i tk g' fl ne ar)= .ok t (Zs t.till t 0 fl ne ar):=by
 unfold as6
 rw [PM.go hp,if_pos h]
 rfl
end
structure Nm (t:Tk):Prop where
 kind:t.kind=1
 res:ak0 t.text resW=false
 aw:t.text≠⟨#[97,119,97,105,116]⟩
 asy:t.text≠⟨#[97,115,121,110,99]⟩
 sl:aQ0 t=false
theorem bt1 {t:ByteArray} {l:List ByteArray} (h:ak0 t l=false) {x:ByteArray} (hx:ak0 x l=true):t≠x:=by
 rintro rfl
 rw [h] at hx
 cases hx
theorem Nm.ne {t:Tk} (h:Nm t) {x:ByteArray} (hx:ak0 x resW=true):t.text≠x:=bt1 h.res hx
theorem Nm.nameT {t:Tk} (h:Nm t) {x:ByteArray} (hx:ak0 x resW=true):nameT t x=false:=by
 unfold Go.Proofs.YtokfgpjclmdllaaGreatDoor.nameT
 rw [decide_eq_false (h.ne hx),Bool.and_false]
theorem Nm.punctT {t:Tk} (h:Nm t) (x:ByteArray):punctT t x=false:=by
 unfold Go.Proofs.YtokfgpjclmdllaaGreatDoor.punctT
 rw [h.kind]
 rfl
theorem Nm.ident {t:Tk} (h:Nm t) (m:Bool) (fl:Int):ak6 m fl t=true:=by
 unfold ak6 aa0
 rw [if_neg h.aw,h.res,h.kind,decide_eq_true h.aw]
 simp
theorem aC0 {t:Tk} {x:ByteArray} (h:t.text≠x):nameT t x=false:=by
 unfold nameT
 rw [decide_eq_false h,Bool.and_false]
theorem aU4 {t:Tk} {x:ByteArray} (h:t.kind≠5):punctT t x=false:=by
 unfold punctT
 rw [decide_eq_false h,Bool.false_and]
theorem aP6 {t:Tk} {x:ByteArray} (h:t.text≠x):punctT t x=false:=by
 unfold punctT
 rw [decide_eq_false h,Bool.and_false]
theorem bd1 {t:Tk} {x:ByteArray} (h:t.kind≠1):nameT t x=false:=by
 unfold nameT
 rw [decide_eq_false h,Bool.false_and]
structure Endy (u:Tk):Prop where
 dot:punctT u ⟨#[46]⟩=false
 brk:punctT u ⟨#[91]⟩=false
 par:punctT u ⟨#[40]⟩=false
 opt:punctT u ⟨#[63,46]⟩=false
 k7:u.kind≠7
 k8:u.kind≠8
 inc:punctT u ⟨#[43,43]⟩=false
 dec:punctT u ⟨#[45,45]⟩=false
section
variable {s:ByteArray} {m:Bool} {g i fl ne ar:Int} {t u tk:Tk}
theorem bA8 (f:Nat) (h:Nm t) (hg:g=1∨g=2):runQ s m (f+1) (.named t) (Zs i t g fl ne ar)= .ok (af5 1 t) (Zs t.till t 0 fl ne ar):=by
 show aE3 s m (runQ s m f) t _=_
 have h1:ak0 t.text [⟨#[116,104,105,115]⟩,⟨#[110,117,108,108]⟩,⟨#[116,114,117,101]⟩,⟨#[102,97,108,115,101]⟩]=false:=by
  unfold ak0
  rw [List.any_eq_false]
  intro x hx
  simp only [List.mem_cons,List.not_mem_nil,or_false] at hx
  rcases hx with rfl|rfl|rfl|rfl<;>(rw [decide_eq_false (h.ne (by decide))];decide)
 unfold aE3
 rw [if_neg (by rw [h1];decide),if_neg (h.ne (by decide)),if_neg (h.ne (by decide)),if_neg h.asy]
 unfold ak3
 have hp:ab4 s 1 (Zs i t g fl ne ar)= .ok t (Zs i t g fl ne ar):=aU1 (by omega) (by omega) (by omega) h.sl
 rw [PM.go hp]
 show(if ak6 m fl t then _ else _:PM Nd) _=_
 rw [if_pos (h.ident m fl),PM.go as3]
 rfl
theorem bE1 (f:Nat) (h:Nm t) (hg:g=1∨g=2) (calls:Bool):runQ s m (f+3) (.base t calls) (Zs i t g fl ne ar)= .ok (af5 1 t) (Zs t.till t 0 fl ne ar):=by
 show aJ9 s m (runQ s m (f+2)) t calls _=_
 unfold aJ9
 rw [if_neg (by rw [h.nameT (by decide)];decide),if_neg (by rw [h.nameT (by decide)];decide),if_neg (by rw [h.nameT (by decide)];decide)]
 show am3 (runQ s m (f+1)) t _=_
 have hk:=h.kind
 unfold am3
 rw [if_neg (by omega),if_neg (by omega),if_neg (by omega),if_pos hk]
 exact bA8 f h hg
theorem bj8 (f:Nat) (n:Nd) (calls tmpl:Bool) (hu:Endy u) (hp:ab4 s 1 (Zs i tk g fl ne ar)= .ok u (Zs i u 1 fl ne ar)):runQ s m (f+1) (.link n calls tmpl) (Zs i tk g fl ne ar)= .ok (n,false) (Zs i u 1 fl ne ar):=by
 show aT0 s (runQ s m f) n calls tmpl _=_
 unfold aT0
 rw [PM.go hp,if_neg (by rw [hu.dot];decide),if_neg (by rw [hu.brk];decide),if_neg (by rw [hu.par];simp),if_neg (by have:=hu.k7;have:=hu.k8;omega)]
 rfl
theorem aK6 (p:Ps):getP p= .ok p p:=rfl
theorem aE8 (hg:g=1∨g=2) (hs:aQ0 t=false) {g2:Int} (h2:g2≤2):ab4 s g2 (Zs i t g fl ne ar)= .ok t (Zs i t g fl ne ar):=aU1 (by omega) (by omega) h2 hs
theorem aO1 (t:Tk): ¬(af5 1 t).kind=22:=by
 show¬(1:Int)=22
 decide
theorem bG2 (f:Nat) {p:Ps} (h:Nm t) (hg:g=1∨g=2) (hp:ab4 s 2 p= .ok t (Zs i t g fl ne ar)) (hu:Endy u) (hs:Sees s 1 t.till u):
  runQ s m (f+4) .leftHand p= .ok (af5 1 t) (Zs t.till u 1 fl ne ar):=by
 show af4 s (f+3) (runQ s m (f+3)) p=_
 unfold af4
 rw [PM.go hp,PM.go (aK6 _)]
 show(runQ s m (f+3) (.base t true)>>=_) _=_
 rw [PM.go (bE1 f h hg true),if_neg (aO1 t),if_neg (by rw [show decide ((af5 1 t).text=⟨#[97,115,121,110,99]⟩)=false from decide_eq_false h.asy];simp)]
 unfold af4.linkL
 rw [PM.go (ad6 hs),if_neg (by rw [hu.opt];decide),PM.go (bj8 (f+2) (af5 1 t) true true hu (ac3 (by decide))),if_neg (show¬((false:Bool)=true) by decide)]
 rfl
theorem bD5 (f:Nat) {p:Ps} (h:Nm t) (hg:g=1∨g=2) (hp:ab4 s 2 p= .ok t (Zs i t g fl ne ar)) (hu:Endy u) (hs:Sees s 1 t.till u):
  runQ s m (f+5) .unary p= .ok (af5 1 t) (Zs t.till u 1 fl ne ar):=by
 show ay4 s (runQ s m (f+4)) p=_
 unfold ay4
 rw [PM.go hp,if_neg (by rw [h.nameT (by decide),h.nameT (by decide),h.nameT (by decide),h.punctT,h.punctT,h.punctT,h.punctT];decide),PM.go (aK6 _),if_neg (by rw [aC0 h.aw];simp),if_neg (by rw [h.punctT,h.punctT];decide),PM.go (bG2 f h hg (aE8 hg h.sl (by decide)) hu hs),if_neg (aO1 t),PM.go (ac3 (by decide)),if_neg (by rw [hu.inc,hu.dec];simp)]
 rfl
theorem bk8 (f:Nat) (least:Int) {p:Ps} (h:Nm t) (hg:g=1∨g=2) (hp:ab4 s 2 p= .ok t (Zs i t g fl ne ar)) (hu:Endy u) (hs:Sees s 1 t.till u):
  runQ s m (f+6) (.operand least) p= .ok (af5 1 t) (Zs t.till u 1 fl ne ar):=by
 show am1 s (runQ s m (f+5)) least p=_
 unfold am1
 rw [PM.go hp,if_pos (by rw [h.kind];decide)]
 exact bD5 f h hg (aE8 hg h.sl (by decide)) hu hs
end
end
section
open Go.RowKit
structure Opr (o:Tk):Prop where
 op:(decide (o.kind≠5) && !nameT o ⟨#[105,110,115,116,97,110,99,101,111,102]⟩ && !nameT o ⟨#[105,110]⟩)=false
 lo:2≤ac7 o.text
 hi:ac7 o.text≤12
 star:ac7 o.text=12↔o.text=⟨#[42,42]⟩
 e:Endy o
structure Stp (u:Tk):Prop where
 op:(decide (u.kind≠5) && !nameT u ⟨#[105,110,115,116,97,110,99,101,111,102]⟩ && !nameT u ⟨#[105,110]⟩)=true∨ac7 u.text=0
 e:Endy u
section
variable {s:ByteArray}
def Row (s:ByteArray):Int→List (Tk × Tk)→Tk→Prop
 |i,[],e=>Sees s 1 i e
 |i,x::l,e=>Sees s 1 i x.1∧Opr x.1∧Sees s 2 x.1.till x.2∧Nm x.2∧Row s x.2.till l e
def bG1:Tk→List (Tk × Tk)→Tk
 |v,[]=>v
 |_,x::l=>bG1 x.2 l
def bJ7:List (Tk × Tk)→Tk→Tk
 | [],e=>e
 |x::_,_=>x.1
theorem Row.drop {e:Tk} : ∀ {a b:List (Tk × Tk)} {v:Tk},Row s v.till (a++b) e→Row s (bG1 v a).till b e
 | [],_,_,h=>h
 |x::a,_,_,h=>Row.drop (a:=a) (v:=x.2) h.2.2.2.2
theorem Row.head {l:List (Tk × Tk)} {i:Int} {e:Tk} (h:Row s i l e):Sees s 1 i (bJ7 l e):=by
 cases l with
 |nil=>exact h
 |cons x l=>exact h.1
theorem bx4 (t:Tk):ac4 (af5 1 t)= .mk 1 t.text [] 0 0:=by
 unfold af5
 rw [ac4,if_neg (by decide),ae9]
variable {m:Bool}
theorem aT7 {i ne ar:Int} {u:Tk} (h:Stp u): ∃r:Tk × Int,r.2=0∧aj0 s (Zs i u 1 1 ne ar)= .ok r (Zs i u 1 1 ne ar):=by
 unfold aj0
 rw [PM.go (ac3 (by decide)),PM.go (aK6 _)]
 have h2:hasF 1 1=true:=by decide
 show∃r:Tk × Int,r.2=0∧(if (decide (u.kind≠5) && !nameT u ⟨#[105,110,115,116,97,110,99,101,111,102]⟩ && (!nameT u ⟨#[105,110]⟩|| !hasF 1 1))=true then _ else _:PM (Tk × Int)) _=_
 rw [h2,Bool.not_true,Bool.or_false]
 rcases h.op with h1|h1
 ·rw [if_pos h1]
  exact⟨_,rfl,rfl⟩
 ·split
  ·exact⟨_,rfl,rfl⟩
  ·exact⟨_,h1,rfl⟩
end
end
section
open Go.RowKit
section
variable {s:ByteArray} {p:Nat}
theorem aq9 {c:UInt8} {l:List UInt8} (hd:s.data.toList.drop p=c::l):p<s.size:=by
 have h:=congrArg List.length hd
 rw [List.length_drop,List.length_cons] at h
 show p<s.data.size
 rw [←Array.length_toList]
 omega
theorem ah1 {c:UInt8} {l:List UInt8} (hd:s.data.toList.drop p=c::l):s.data.toList.drop (p+1)=l:=by
 rw [←List.drop_drop,hd]
 rfl
theorem bx0 {a l:List UInt8} (hd:s.data.toList.drop p=a++l):s.data.toList.drop (p+a.length)=l:=by
 rw [←List.drop_drop,hd,List.drop_left]
theorem bn9 {a l:List UInt8} (hd:s.data.toList.drop p=a++l) (hp:p≤s.size):p+a.length≤s.size:=by
 have h:=congrArg List.length hd
 rw [List.length_drop,List.length_append] at h
 have h2:s.data.toList.length=s.size:=Array.length_toList
 omega
theorem ay3 {a l:List UInt8} (hd:s.data.toList.drop p=a++l):s.extract p (p+a.length)=⟨a.toArray⟩:=by
 apply bv2
 rw [ByteArray.data_extract,Array.toList_extract,List.extract_eq_take_drop,hd,Nat.add_sub_cancel_left,List.take_left]
theorem bE2 {l:List UInt8} {line:Bool} (hd:s.data.toList.drop p=32::l):btw s p line=btw s (p+1) line:=by
 have hlt:=aq9 hd
 have h1:ar4 (32::l)=true:=by
  unfold ar4
  rw [af1 _ _ (by decide)]
  rfl
 rw [aK1 s p line (by omega),hd,if_pos h1,af1 _ _ (by decide)]
 show btw s (p+1) (line||an3 32)=_
 rw [show an3 32=false from rfl,Bool.or_false]
def Ink (l:List UInt8):Prop:=ar4 l=false∧∀p,0<p→ad1 p l=0
theorem aK0 {l:List UInt8} {line:Bool} (hd:s.data.toList.drop p=l) (hp:p≤s.size) (h:ar4 l=false∧ad1 p l=0):btw s p line= .fine p line []:=by
 rw [aK1 s p line hp,hd,if_neg (by rw [h.1];decide),if_pos h.2]
theorem bk4 {g:Int} (hg:g=1∨g=2) {q:Nat} {line:Bool} {kind:Int} {n:Nat} (hb:btw s p false= .fine q line []) (ht:ai3 g (s.data.toList.drop q)= .fine kind n):nxt s p g= .fine kind q n line []:=by
 unfold nxt tokT
 rcases hg with rfl|rfl<;>
 ·rw [if_neg (by rintro(h|h|⟨h,_⟩)<;>omega),if_neg (by decide),hb]
  simp only
  rw [if_neg (by decide),if_neg (by decide),if_neg (by decide),ht]
theorem bC3 {g:Int} (hg:g=1∨g=2) {a l:List UInt8} {kind:Int} (hd:s.data.toList.drop p=32::(a++l)) (hi:Ink (a++l)) (ht:ai3 g (a++l)= .fine kind a.length):
  Sees s g p ⟨kind,⟨a.toArray⟩,((p+1:Nat):Int),((p+1+a.length:Nat):Int),false⟩:=by
 have hlt:=aq9 hd
 have hd1:=ah1 hd
 refine⟨by omega,by omega,p+1,a.length,?_,?_⟩
 ·rw [Int.toNat_natCast]
  refine bk4 hg ((bE2 hd).trans (aK0 hd1 (by omega) ⟨hi.1,hi.2 _ (by omega)⟩)) ?_
  rw [hd1]
  exact ht
 ·unfold tkOf
  rw [ay3 hd1]
def endT (p:Nat):Tk:=⟨0,⟨#[]⟩,p,p,false⟩
theorem bu3 {g:Int} (hg:g=1∨g=2) (hd:s.data.toList.drop p= []) (hp:p≤s.size):Sees s g p (endT p):=by
 refine⟨by omega,by omega,p,0,?_,?_⟩
 ·rw [Int.toNat_natCast]
  refine bk4 hg (aK0 hd hp ⟨rfl,?_⟩) ?_
  ·unfold ad1
   rw [if_neg (by decide),if_neg (by decide),if_neg (by simp [Lib.hasPrefix])]
  ·rw [hd]
   rfl
 ·unfold tkOf endT
  have:s.extract p (p+0)=⟨#[]⟩:=ay3 (a:= []) (l:= []) hd
  rw [this]
  simp
end
def bf1 (c:UInt8):Bool:=decide (c.toNat<128) && at6 (c.toNat:Int)
theorem aI0 {l:List UInt8} (hl:al3 false l=false): ∀(a:List UInt8),(∀c ∈ a,bf1 c=true)→ag2 false (a++l)=a.length
 | [],_=>ax4 hl
 |c::a,h=>by
  have hc:=h c (.head _)
  unfold bf1 at hc
  rw [Bool.and_eq_true,decide_eq_true_eq] at hc
  have hg:al3 false (c::(a++l))=true:=by
   unfold al3
   rw [af1 _ _ hc.1,hc.2]
   rfl
  rw [List.cons_append,am5 hg,af1 _ _ hc.1]
  show 1+ag2 false (a++l)=_
  rw [aI0 hl a (fun c hc=>h c (.tail _ hc)),List.length_cons]
  omega
theorem bk0 {c:UInt8} {a l:List UInt8} (hc:c.toNat<128) (hs:ad7 (c.toNat:Int)=true) (ha: ∀c ∈ a,bf1 c=true) (hl:al3 false l=false):ag4 false (c::(a++l))=a.length+1:=by
 have hw: ∀x ∈ c::a,bf1 x=true:=by
  intro x hx
  rcases List.mem_cons.1 hx with rfl|hx
  ·unfold bf1 at6
   rw [decide_eq_true hc,hs]
   rfl
  ·exact ha x hx
 unfold ag4
 rw [af1 _ _ hc,if_pos ⟨show (0:Int)<1 by decide,hs⟩,←List.cons_append,aI0 hl _ hw,List.length_cons]
@[reducible] def low (c:UInt8):Prop:=97≤c.toNat∧c.toNat≤122
theorem ah4 {c d:UInt8} {l w:List UInt8} (h:c≠d):Lib.hasPrefix (c::l) (d::w)=false:=by
 unfold Lib.hasPrefix
 rw [List.isPrefixOf_cons_cons,beq_eq_false_iff_ne.2 (Ne.symm h),Bool.false_and]
theorem aI3 {g:Int} {c:UInt8} {a l:List UInt8} (hlo:low c) (hs:ad7 (c.toNat:Int)=true) (ha: ∀c ∈ a,bf1 c=true) (hl:al3 false l=false) (hl2:0≤(nx l).2):
  ai3 g (c::a++l)= .fine 1 (c::a).length:=by
 obtain⟨h1,h2⟩:=hlo
 have hn: ∀d:UInt8,d.toNat<97→c≠d:=by rintro d hd rfl;omega
 have hdig:aj4 (c::(a++l))=false:=by
  unfold aj4
  rw [decide_eq_false_iff_not]
  omega
 have hw:=bk0 (l:=l) (by omega) hs ha hl
 rw [List.cons_append]
 unfold ai3
 rw [if_neg (by simp),if_neg (by rw [ah4 (hn _ (by decide))];decide),if_neg (by rw [ah4 (hn _ (by decide))];decide),if_neg (by rw [hdig,ah4 (hn 46 (by decide))];simp),if_neg (by rw [ah4 (hn _ (by decide)),ah4 (hn _ (by decide))];simp),if_neg (by rw [ah4 (hn _ (by decide))];simp),hw,if_pos (by omega)]
 unfold aft
 rw [show (c::(a++l)).drop (a.length+1)=l by rw [List.drop_succ_cons,List.drop_left],if_neg (by omega),List.length_cons]
theorem bx1 {f:Nat→Bool} {m:Nat} (h:(List.range m).all f=true) (n:Nat) (hn:n<m):f n=true:=List.all_eq_true.1 h n (List.mem_range.2 hn)
theorem by7:(List.range 127).all (fun n=>decide (n<33)|| !(an3 (n:Int)||at8 (n:Int)))=true:=by kernel_rfl
theorem bA7:(List.range 127).all (fun n=>decide (n<97∨122<n)||ad7 (n:Int))=true:=by kernel_rfl
theorem bF4 {c:UInt8} {l:List UInt8} (h1:33≤c.toNat) (h2:c.toNat<127) (h3:c≠47) (h4:c≠35):Ink (c::l):=by
 refine⟨?_,fun p hp=> ?_⟩
 ·unfold ar4
  rw [af1 _ _ (by omega)]
  show(decide ((0:Int)<1) && (an3 (c.toNat:Int)||at8 (c.toNat:Int)))=false
  have h:=(Bool.or_eq_true _ _).mp (bx1 by7 c.toNat h2)
  rw [Bool.not_eq_true',decide_eq_true_eq] at h
  rw [h.resolve_left (by omega),Bool.and_false]
 ·unfold ad1
  rw [if_neg (by rw [ah4 h3];decide),if_neg (by rw [ah4 h3];decide),if_neg (by rw [ah4 h4];simp)]
theorem aO3 {c:UInt8} (h:low c):ad7 (c.toNat:Int)=true:=by
 obtain⟨h1,h2⟩:=h
 have h:=bx1 bA7 c.toNat (by omega)
 simp only [Bool.or_eq_true,decide_eq_true_eq] at h
 exact h.resolve_left (by omega)
end
section
open Go.RowKit
def bG5 (c:UInt8):Bool:=decide (c.toNat<128) && !ad7 (c.toNat:Int) && decide (c≠96∧c≠35∧c≠46∧c≠39∧c≠34∧¬(48≤c.toNat∧c.toNat≤57))
def row2 (x:List UInt8 × List UInt8):ByteArray × ByteArray:=(⟨x.1.toArray⟩,⟨(118::x.2).toArray⟩)
theorem by0 (p:Nat):Stp (endT p):=⟨.inr rfl,⟨rfl,rfl,rfl,rfl,(show¬(0:Int)=7 by decide),(show¬(0:Int)=8 by decide),rfl,rfl⟩⟩
end
section
open Go.RowKit
section
variable {s:ByteArray} {m:Bool} {i g fl ne ar:Int} {u v:Tk} {n:Nd} {p:Ps} {f:Nat}
theorem bv5 (hb:runQ s m f (.binary 1 false) p= .ok n (Zs i u 1 fl ne ar)) (hk:n.kind≠22) (hq:punctT u ⟨#[63]⟩=false):runQ s m (f+1) .cond p= .ok n (Zs i u 1 fl ne ar):=by
 show aR8 s (runQ s m f) p=_
 unfold aR8
 rw [PM.go hb,if_neg hk,PM.go (bJ8 (ac3 (by decide)) hq),if_neg (by decide)]
 rfl
theorem aH0 (hk:n.kind≠22) (ha:ah2 u=false):runQ s m (f+1) (.assigned n) (Zs i u 1 fl ne ar)= .ok n (Zs i u 1 fl ne ar):=by
 show am8 s (runQ s m f) n _=_
 unfold am8
 rw [if_neg hk,PM.go (ac3 (by decide)),if_neg (by rw [ha];decide)]
 rfl
theorem aK4 {α:Type} {x:PM α} {i':Int} {u':Tk} {g' fl' ar' place:Int} {a:α} (h0:0≤ne) (h1:ne<4000) (hx:x (Zs i u g fl (ne+1) ar)= .ok a (Zs i' u' g' fl' (ne+1) ar')):ae3 place x (Zs i u g fl ne ar)= .ok a (Zs i' u' g' fl' ne ar'):=by
 unfold ae3
 show(if 4000≤ne then _ else _)=_
 rw [if_neg (by omega)]
 show PM.bind x _ (Zs i u g fl (ne+1) ar)=_
 unfold PM.bind
 rw [hx]
 show(if ne+1≤0 then _ else _)=_
 rw [if_neg (by omega)]
 show Res.ok a (Zs _ _ _ _ (ne+1 - 1) _)=_
 rw [Int.add_sub_cancel]
 rfl
theorem az8 (ha:runQ s m f .assign p= .ok n (Zs i u 1 fl ne ar)) (hc:punctT u ⟨#[44]⟩=false):runQ s m (f+1) .expression p= .ok n (Zs i u 1 fl ne ar):=by
 show ag0 s f (runQ s m f) p=_
 unfold ag0
 rw [PM.go ha,PM.go (ac3 (by decide)),if_neg (by rw [hc];decide)]
 rfl
theorem bE7 (he:runQ s m f .expression (ps0 m)= .ok n (Zs i u 1 fl ne ar)) (hu:u.kind=0) (hn:ar8 n=true) (hz:aa2 n≤8000):aA7 s m f= .ok n (Zs i u 1 fl ne ar):=by
 have hd:=bh4 n
 unfold aA7 az3 aH6
 rw [PM.go (show _=Res.ok n (Zs i u 1 fl ne ar) by rw [PM.go he,PM.go (ac3 (by decide)),if_pos hu];rfl),if_neg (by rw [hn];decide),if_neg (by omega),if_neg (by omega)]
 rfl
end
end
section
open Go.RowKit
section
variable {s:ByteArray} {p:Nat}
def Ink0 (l:List UInt8):Prop:=ar4 l=false∧∀p,ad1 p l=0
theorem ah5 {c:UInt8} {l:List UInt8} (h1:33≤c.toNat) (h2:c.toNat<127) (h3:c≠47) (h4:c≠35):Ink0 (c::l):=by
 refine⟨(bF4 h1 h2 h3 h4).1,fun p=> ?_⟩
 unfold ad1
 rw [if_neg (by rw [ah4 h3];decide),if_neg (by rw [ah4 h3];decide),if_neg (by rw [ah4 h4];simp)]
theorem at4 {g:Int} (hg:g=1∨g=2) {a l:List UInt8} {kind:Int} (hd:s.data.toList.drop p=a++l) (hp:p≤s.size) (hi:Ink0 (a++l)) (ht:ai3 g (a++l)= .fine kind a.length):
  Sees s g p ⟨kind,⟨a.toArray⟩,(p:Int),((p+a.length:Nat):Int),false⟩:=by
 refine⟨by omega,by omega,p,a.length,?_,?_⟩
 ·rw [Int.toNat_natCast]
  refine bk4 hg (aK0 hd hp ⟨hi.1,hi.2 _⟩) ?_
  rw [hd]
  exact ht
 ·unfold tkOf
  rw [ay3 hd]
end
theorem nm_v:Nm ⟨1,⟨#[118]⟩,0,0,false⟩:=⟨rfl,by decide,by decide,by decide,rfl⟩
theorem an9 {g:Int} {c:UInt8} {l:List UInt8} {n:Nat} (hc:bG5 c=true) (h47:c≠47) (hp:pct g (c::l)=n) (hn:n≠0):ai3 g (c::l)= .fine 5 n:=by
 unfold bG5 at hc
 rw [Bool.and_eq_true,Bool.and_eq_true,decide_eq_true_eq,decide_eq_true_eq,Bool.not_eq_true'] at hc
 obtain⟨⟨h1,h2⟩,h3,h4,h5,h6,h7,h8⟩:=hc
 have hdig:aj4 (c::l)=false:=by
  unfold aj4
  rw [decide_eq_false_iff_not]
  exact h8
 have hname:ag4 false (c::l)=0:=by
  unfold ag4
  rw [af1 _ _ h1,if_neg]
  rintro⟨_,h⟩
  simp only at h
  rw [h2] at h
  cases h
 unfold ai3
 rw [if_neg (by simp),if_neg (by rw [ah4 h3];decide),if_neg (by rw [ah4 h4];decide),if_neg (by rw [hdig,ah4 h5];simp),if_neg (by rw [ah4 h6,ah4 h7];simp),if_neg (by rintro⟨_,h⟩;rw [ah4 h47] at h;cases h),if_neg (by rw [hname];simp),hp,if_pos hn]
theorem aP3 {g:Int} {c:UInt8} {l:List UInt8} (h:c≠47):pct g (c::l)=match aj2.find? (aA9 (c::l)) with|some w=>w.length|none=>0:=by
 unfold pct
 rw [if_neg (by rintro⟨_,h1⟩;rw [ah4 h] at h1;cases h1),if_neg (by rintro⟨_,h1⟩;rw [ah4 h] at h1;cases h1)]
 rfl
end
end Go.Proofs.YtokfgpjclmdllaaGreatDoor
