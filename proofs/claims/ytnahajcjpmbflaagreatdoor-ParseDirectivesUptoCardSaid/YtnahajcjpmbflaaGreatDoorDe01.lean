/- Further steps. Conditions: as stated. -/
import Derived.Test.YtnahajcjpmbflaaGreatDoorPn32
import Derived.Test.YtnahajcjpmbflaaGreatDoorPn33
import Derived.Test.YtnahajcjpmbflaaGreatDoorPn41
set_option maxHeartbeats 16000000
set_option maxRecDepth 100000
namespace Go.Proofs.YtnahajcjpmbflaaGreatDoor
section
open Go.RowKit
def Zs (i:Int) (t:Tk) (g fl ne ar:Int):Ps:=⟨i,t,[],g,[],fl,ne,ar,[]⟩
def Sees (s:ByteArray) (g:Int) (i:Int) (t:Tk):Prop:=0≤i∧i≤(s.size:Int)∧∃q n,nxt s i.toNat g= .fine t.kind q n t.line []∧tkOf s t.kind q n t.line=t
def ac7 (t:Tk):Bool:=Lib.hasPrefix t.text.data.toList [47]
theorem PM.go {α β:Type} {x:PM α} {f:α→PM β} {p q:Ps} {a:α} (h:x p= .ok a q):(x>>=f) p=f a q:=by
 show PM.bind x f p=_
 unfold PM.bind
 rw [h]
section
variable {s:ByteArray} {g g' i fl ne ar:Int} {t tk:Tk}
theorem aa4 (h:Sees s g i t):peekP s g (Zs i tk 0 fl ne ar)= .ok t (Zs i t g fl ne ar):=by
 obtain⟨h0,h1,q,n,h2,h3⟩:=h
 unfold peekP cachedB Zs
 rw [if_neg (by simp)]
 unfold freshP
 simp only
 rw [if_neg (by omega),h2]
 simp only
 rw [h3]
theorem aa1 (hg:g≠0):peekP s g (Zs i t g fl ne ar)= .ok t (Zs i t g fl ne ar):=by
 unfold peekP cachedB Zs
 rw [if_pos (by simp [hg])]
theorem ad4 (h1:g'≠0) (h2:g'≤2) (h3:g≤2) (hs:ac7 t=false):peekP s g (Zs i t g' fl ne ar)= .ok t (Zs i t g' fl ne ar):=by
 unfold ac7 at hs
 unfold peekP cachedB Zs
 rw [if_pos (by simp [h1,h2,h3,hs])]
theorem aa8:takeP (Zs i t g fl ne ar)= .ok t (Zs t.till t 0 fl ne ar):=rfl
theorem ai9 (h:Sees s 1 i t) (p:Ps):lookP s i p= .ok t p:=by
 obtain⟨h0,h1,q,n,h2,h3⟩:=h
 unfold lookP lookT
 rw [if_neg (by omega),h2]
 simp only
 rw [h3]
 rfl
theorem ao4 {x:ByteArray} (hp:peekP s 1 (Zs i tk g' fl ne ar)= .ok t (Zs i t g fl ne ar)) (h:punctT t x=false):isP s x (Zs i tk g' fl ne ar)= .ok false (Zs i t g fl ne ar):=by
 unfold isP
 rw [PM.go hp,if_neg (by rw [h];decide)]
 rfl
theorem ap3 {x:ByteArray} (hp:peekP s 1 (Zs i tk g' fl ne ar)= .ok t (Zs i t g fl ne ar)) (h:punctT t x=true):isP s x (Zs i tk g' fl ne ar)= .ok true (Zs t.till t 0 fl ne ar):=by
 unfold isP
 rw [PM.go hp,if_pos h]
 rfl
theorem ae4 {x:ByteArray} (hp:peekP s 1 (Zs i tk g' fl ne ar)= .ok t (Zs i t g fl ne ar)) (h:punctT t x=true):wantP s x (Zs i tk g' fl ne ar)= .ok t (Zs t.till t 0 fl ne ar):=by
 unfold wantP
 rw [PM.go hp,if_pos h]
 rfl
end
structure Nm (t:Tk):Prop where
 kind:t.kind=1
 res:oneOf t.text resW=false
 aw:t.text≠⟨#[97,119,97,105,116]⟩
 asy:t.text≠⟨#[97,115,121,110,99]⟩
 sl:ac7 t=false
theorem ag5 {t:ByteArray} {l:List ByteArray} (h:oneOf t l=false) {x:ByteArray} (hx:oneOf x l=true):t≠x:=by
 rintro rfl
 rw [h] at hx
 cases hx
theorem Nm.ne {t:Tk} (h:Nm t) {x:ByteArray} (hx:oneOf x resW=true):t.text≠x:=ag5 h.res hx
theorem Nm.nameT {t:Tk} (h:Nm t) {x:ByteArray} (hx:oneOf x resW=true):nameT t x=false:=by
 unfold Go.Proofs.YtnahajcjpmbflaaGreatDoor.nameT
 rw [decide_eq_false (h.ne hx),Bool.and_false]
theorem Nm.punctT {t:Tk} (h:Nm t) (x:ByteArray):punctT t x=false:=by
 unfold Go.Proofs.YtnahajcjpmbflaaGreatDoor.punctT
 rw [h.kind]
 rfl
theorem Nm.ident {t:Tk} (h:Nm t) (m:Bool) (fl:Int):identB m fl t=true:=by
 unfold identB reservedB
 rw [if_neg h.aw,h.res,h.kind,decide_eq_true h.aw]
 simp
theorem ac0 {t:Tk} {x:ByteArray} (h:t.text≠x):nameT t x=false:=by
 unfold nameT
 rw [decide_eq_false h,Bool.and_false]
theorem aa0 {t:Tk} {x:ByteArray} (h:t.kind≠5):punctT t x=false:=by
 unfold punctT
 rw [decide_eq_false h,Bool.false_and]
theorem ai1 {t:Tk} {x:ByteArray} (h:t.text≠x):punctT t x=false:=by
 unfold punctT
 rw [decide_eq_false h,Bool.and_false]
theorem aa3 {t:Tk} {x:ByteArray} (h:t.kind≠1):nameT t x=false:=by
 unfold nameT
 rw [decide_eq_false h,Bool.false_and]
structure Endy (u:Tk):Prop where
 dot:punctT u ⟨#[46]⟩=false
 brk:punctT u ⟨#[91]⟩=false
 par:punctT u ⟨#[40]⟩=false
 opt:punctT u ⟨#[63,46]⟩=false
 k7:u.kind≠7
 k8:u.kind≠8
 inc:punctT u ⟨#[43,43]⟩=false
 dec:punctT u ⟨#[45,45]⟩=false
section
variable {s:ByteArray} {m:Bool} {g i fl ne ar:Int} {t u tk:Tk}
theorem am7 (f:Nat) (h:Nm t) (hg:g=1∨g=2):runQ s m (f+1) (.named t) (Zs i t g fl ne ar)= .ok (leafN 1 t) (Zs t.till t 0 fl ne ar):=by
 show namedS s m (runQ s m f) t _=_
 have h1:oneOf t.text [⟨#[116,104,105,115]⟩,⟨#[110,117,108,108]⟩,⟨#[116,114,117,101]⟩,⟨#[102,97,108,115,101]⟩]=false:=by
  unfold oneOf
  rw [List.any_eq_false]
  intro x hx
  simp only [List.mem_cons,List.not_mem_nil,or_false] at hx
  rcases hx with rfl|rfl|rfl|rfl<;>(rw [decide_eq_false (h.ne (by decide))];decide)
 unfold namedS
 rw [if_neg (by rw [h1];decide),if_neg (h.ne (by decide)),if_neg (h.ne (by decide)),if_neg h.asy]
 unfold takeIdentP
 have hp:peekP s 1 (Zs i t g fl ne ar)= .ok t (Zs i t g fl ne ar):=ad4 (by omega) (by omega) (by omega) h.sl
 rw [PM.go hp]
 show(if identB m fl t then _ else _:PM Nd) _=_
 rw [if_pos (h.ident m fl),PM.go aa8]
 rfl
theorem ap8 (f:Nat) (h:Nm t) (hg:g=1∨g=2) (calls:Bool):runQ s m (f+3) (.base t calls) (Zs i t g fl ne ar)= .ok (leafN 1 t) (Zs t.till t 0 fl ne ar):=by
 show baseS s m (runQ s m (f+2)) t calls _=_
 unfold baseS
 rw [if_neg (by rw [h.nameT (by decide)];decide),if_neg (by rw [h.nameT (by decide)];decide),if_neg (by rw [h.nameT (by decide)];decide)]
 show primaryS (runQ s m (f+1)) t _=_
 have hk:=h.kind
 unfold primaryS
 rw [if_neg (by omega),if_neg (by omega),if_neg (by omega),if_pos hk]
 exact am7 f h hg
theorem ad8 (f:Nat) (n:Nd) (calls tmpl:Bool) (hu:Endy u) (hp:peekP s 1 (Zs i tk g fl ne ar)= .ok u (Zs i u 1 fl ne ar)):runQ s m (f+1) (.link n calls tmpl) (Zs i tk g fl ne ar)= .ok (n,false) (Zs i u 1 fl ne ar):=by
 show linkS s (runQ s m f) n calls tmpl _=_
 unfold linkS
 rw [PM.go hp,if_neg (by rw [hu.dot];decide),if_neg (by rw [hu.brk];decide),if_neg (by rw [hu.par];simp),if_neg (by have:=hu.k7;have:=hu.k8;omega)]
 rfl
theorem ac1 (p:Ps):getP p= .ok p p:=rfl
theorem ad1 (hg:g=1∨g=2) (hs:ac7 t=false) {g2:Int} (h2:g2≤2):peekP s g2 (Zs i t g fl ne ar)= .ok t (Zs i t g fl ne ar):=ad4 (by omega) (by omega) h2 hs
theorem ad5 (t:Tk): ¬(leafN 1 t).kind=22:=by
 show¬(1:Int)=22
 decide
theorem ao8 (f:Nat) {p:Ps} (h:Nm t) (hg:g=1∨g=2) (hp:peekP s 2 p= .ok t (Zs i t g fl ne ar)) (hu:Endy u) (hs:Sees s 1 t.till u):
  runQ s m (f+4) .leftHand p= .ok (leafN 1 t) (Zs t.till u 1 fl ne ar):=by
 show leftHandS s (f+3) (runQ s m (f+3)) p=_
 unfold leftHandS
 rw [PM.go hp,PM.go (ac1 _)]
 show(runQ s m (f+3) (.base t true)>>=_) _=_
 rw [PM.go (ap8 f h hg true),if_neg (ad5 t),if_neg (by rw [show decide ((leafN 1 t).text=⟨#[97,115,121,110,99]⟩)=false from decide_eq_false h.asy];simp)]
 unfold leftHandS.linkL
 rw [PM.go (aa4 hs),if_neg (by rw [hu.opt];decide),PM.go (ad8 (f+2) (leafN 1 t) true true hu (aa1 (by decide))),if_neg (show¬((false:Bool)=true) by decide)]
 rfl
theorem an5 (f:Nat) {p:Ps} (h:Nm t) (hg:g=1∨g=2) (hp:peekP s 2 p= .ok t (Zs i t g fl ne ar)) (hu:Endy u) (hs:Sees s 1 t.till u):
  runQ s m (f+5) .unary p= .ok (leafN 1 t) (Zs t.till u 1 fl ne ar):=by
 show unaryS s (runQ s m (f+4)) p=_
 unfold unaryS
 rw [PM.go hp,if_neg (by rw [h.nameT (by decide),h.nameT (by decide),h.nameT (by decide),h.punctT,h.punctT,h.punctT,h.punctT];decide),PM.go (ac1 _),if_neg (by rw [ac0 h.aw];simp),if_neg (by rw [h.punctT,h.punctT];decide),PM.go (ao8 f h hg (ad1 hg h.sl (by decide)) hu hs),if_neg (ad5 t),PM.go (aa1 (by decide)),if_neg (by rw [hu.inc,hu.dec];simp)]
 rfl
theorem af2 (f:Nat) (least:Int) {p:Ps} (h:Nm t) (hg:g=1∨g=2) (hp:peekP s 2 p= .ok t (Zs i t g fl ne ar)) (hu:Endy u) (hs:Sees s 1 t.till u):
  runQ s m (f+6) (.operand least) p= .ok (leafN 1 t) (Zs t.till u 1 fl ne ar):=by
 show operandS s (runQ s m (f+5)) least p=_
 unfold operandS
 rw [PM.go hp,if_pos (by rw [h.kind];decide)]
 exact an5 f h hg (ad1 hg h.sl (by decide)) hu hs
end
end
section
open Go.RowKit
structure Opr (o:Tk):Prop where
 op:(decide (o.kind≠5) && !nameT o ⟨#[105,110,115,116,97,110,99,101,111,102]⟩ && !nameT o ⟨#[105,110]⟩)=false
 lo:2≤levelB o.text
 hi:levelB o.text≤12
 star:levelB o.text=12↔o.text=⟨#[42,42]⟩
 e:Endy o
structure Stp (u:Tk):Prop where
 op:(decide (u.kind≠5) && !nameT u ⟨#[105,110,115,116,97,110,99,101,111,102]⟩ && !nameT u ⟨#[105,110]⟩)=true∨levelB u.text=0
 e:Endy u
section
variable {s:ByteArray}
def Row (s:ByteArray):Int→List (Tk × Tk)→Tk→Prop
 |i,[],e=>Sees s 1 i e
 |i,x::l,e=>Sees s 1 i x.1∧Opr x.1∧Sees s 2 x.1.till x.2∧Nm x.2∧Row s x.2.till l e
def ap4:Tk→List (Tk × Tk)→Tk
 |v,[]=>v
 |_,x::l=>ap4 x.2 l
def aq2:List (Tk × Tk)→Tk→Tk
 | [],e=>e
 |x::_,_=>x.1
theorem Row.drop {e:Tk} : ∀ {a b:List (Tk × Tk)} {v:Tk},Row s v.till (a++b) e→Row s (ap4 v a).till b e
 | [],_,_,h=>h
 |x::a,_,_,h=>Row.drop (a:=a) (v:=x.2) h.2.2.2.2
theorem Row.head {l:List (Tk × Tk)} {i:Int} {e:Tk} (h:Row s i l e):Sees s 1 i (aq2 l e):=by
 cases l with
 |nil=>exact h
 |cons x l=>exact h.1
variable {m:Bool}
theorem ah7 {i ne ar:Int} {o:Tk} (h:Opr o):operatorP s (Zs i o 1 1 ne ar)= .ok (o,levelB o.text) (Zs i o 1 1 ne ar):=by
 unfold operatorP
 rw [PM.go (aa1 (by decide)),PM.go (ac1 _)]
 have h1:=h.op
 have h2:hasF 1 1=true:=by decide
 show(if (decide (o.kind≠5) && !nameT o ⟨#[105,110,115,116,97,110,99,101,111,102]⟩ && (!nameT o ⟨#[105,110]⟩|| !hasF 1 1))=true then _ else _:PM (Tk × Int)) _=_
 rw [h2,Bool.not_true,Bool.or_false,if_neg (by rw [h1];decide)]
 rfl
theorem ac4 {i ne ar:Int} {u:Tk} (h:Stp u): ∃r:Tk × Int,r.2=0∧operatorP s (Zs i u 1 1 ne ar)= .ok r (Zs i u 1 1 ne ar):=by
 unfold operatorP
 rw [PM.go (aa1 (by decide)),PM.go (ac1 _)]
 have h2:hasF 1 1=true:=by decide
 show∃r:Tk × Int,r.2=0∧(if (decide (u.kind≠5) && !nameT u ⟨#[105,110,115,116,97,110,99,101,111,102]⟩ && (!nameT u ⟨#[105,110]⟩|| !hasF 1 1))=true then _ else _:PM (Tk × Int)) _=_
 rw [h2,Bool.not_true,Bool.or_false]
 rcases h.op with h1|h1
 ·rw [if_pos h1]
  exact⟨_,rfl,rfl⟩
 ·split
  ·exact⟨_,rfl,rfl⟩
  ·exact⟨_,h1,rfl⟩
end
end
section
open Go.RowKit
section
variable {s:ByteArray} {p:Nat}
theorem aq4 {c:UInt8} {l:List UInt8} (hd:s.data.toList.drop p=c::l):p<s.size:=by
 have h:=congrArg List.length hd
 rw [List.length_drop,List.length_cons] at h
 show p<s.data.size
 rw [←Array.length_toList]
 omega
theorem an2 {c:UInt8} {l:List UInt8} (hd:s.data.toList.drop p=c::l):s.data.toList.drop (p+1)=l:=by
 rw [←List.drop_drop,hd]
 rfl
theorem ag8 {a l:List UInt8} (hd:s.data.toList.drop p=a++l):s.data.toList.drop (p+a.length)=l:=by
 rw [←List.drop_drop,hd,List.drop_left]
theorem af8 {a l:List UInt8} (hd:s.data.toList.drop p=a++l) (hp:p≤s.size):p+a.length≤s.size:=by
 have h:=congrArg List.length hd
 rw [List.length_drop,List.length_append] at h
 have h2:s.data.toList.length=s.size:=Array.length_toList
 omega
theorem ak8 {a l:List UInt8} (hd:s.data.toList.drop p=a++l):s.extract p (p+a.length)=⟨a.toArray⟩:=by
 apply ba_ext
 rw [ByteArray.data_extract,Array.toList_extract,List.extract_eq_take_drop,hd,Nat.add_sub_cancel_left,List.take_left]
def Ink (l:List UInt8):Prop:=isGap l=false∧∀p,0<p→cmKind p l=0
theorem ao1 {l:List UInt8} {line:Bool} (hd:s.data.toList.drop p=l) (hp:p≤s.size) (h:isGap l=false∧cmKind p l=0):btw s p line= .fine p line []:=by
 rw [btw_step s p line hp,hd,if_neg (by rw [h.1];decide),if_pos h.2]
end
def af0 (c:UInt8):Bool:=decide (c.toNat<128) && partC (c.toNat:Int)
theorem ad7 {l:List UInt8} (hl:goesP false l=false): ∀(a:List UInt8),(∀c ∈ a,af0 c=true)→partsL false (a++l)=a.length
 | [],_=>partsL_no hl
 |c::a,h=>by
  have hc:=h c (.head _)
  unfold af0 at hc
  rw [Bool.and_eq_true,decide_eq_true_eq] at hc
  have hg:goesP false (c::(a++l))=true:=by
   unfold goesP
   rw [nx_ascii _ _ hc.1,hc.2]
   rfl
  rw [List.cons_append,partsL_yes hg,nx_ascii _ _ hc.1]
  show 1+partsL false (a++l)=_
  rw [ad7 hl a (fun c hc=>h c (.tail _ hc)),List.length_cons]
  omega
theorem ah8 {c:UInt8} {a l:List UInt8} (hc:c.toNat<128) (hs:startC (c.toNat:Int)=true) (ha: ∀c ∈ a,af0 c=true) (hl:goesP false l=false):nameL false (c::(a++l))=a.length+1:=by
 have hw: ∀x ∈ c::a,af0 x=true:=by
  intro x hx
  rcases List.mem_cons.1 hx with rfl|hx
  ·unfold af0 partC
   rw [decide_eq_true hc,hs]
   rfl
  ·exact ha x hx
 unfold nameL
 rw [nx_ascii _ _ hc,if_pos ⟨show (0:Int)<1 by decide,hs⟩,←List.cons_append,ad7 hl _ hw,List.length_cons]
@[reducible] def low (c:UInt8):Prop:=97≤c.toNat∧c.toNat≤122
theorem aa2 {c d:UInt8} {l w:List UInt8} (h:c≠d):Lib.hasPrefix (c::l) (d::w)=false:=by
 unfold Lib.hasPrefix
 rw [List.isPrefixOf_cons_cons,beq_eq_false_iff_ne.2 (Ne.symm h),Bool.false_and]
theorem ac9 {g:Int} {c:UInt8} {a l:List UInt8} (hlo:low c) (hs:startC (c.toNat:Int)=true) (ha: ∀c ∈ a,af0 c=true) (hl:goesP false l=false) (hl2:0≤(nx l).2):
  plainT g (c::a++l)= .fine 1 (c::a).length:=by
 obtain⟨h1,h2⟩:=hlo
 have hn: ∀d:UInt8,d.toNat<97→c≠d:=by rintro d hd rfl;omega
 have hdig:digAt (c::(a++l))=false:=by
  unfold digAt
  rw [decide_eq_false_iff_not]
  omega
 have hw:=ah8 (l:=l) (by omega) hs ha hl
 rw [List.cons_append]
 unfold plainT
 rw [if_neg (by simp),if_neg (by rw [aa2 (hn _ (by decide))];decide),if_neg (by rw [aa2 (hn _ (by decide))];decide),if_neg (by rw [hdig,aa2 (hn 46 (by decide))];simp),if_neg (by rw [aa2 (hn _ (by decide)),aa2 (hn _ (by decide))];simp),if_neg (by rw [aa2 (hn _ (by decide))];simp),hw,if_pos (by omega)]
 unfold aft
 rw [show (c::(a++l)).drop (a.length+1)=l by rw [List.drop_succ_cons,List.drop_left],if_neg (by omega),List.length_cons]
theorem am5 {f:Nat→Bool} {m:Nat} (h:(List.range m).all f=true) (n:Nat) (hn:n<m):f n=true:=List.all_eq_true.1 h n (List.mem_range.2 hn)
theorem am8:(List.range 127).all (fun n=>decide (n<33)|| !(endsR (n:Int)||blankR (n:Int)))=true:=by kernel_rfl
theorem an9:(List.range 127).all (fun n=>decide (n<97∨122<n)||startC (n:Int))=true:=by kernel_rfl
theorem aq0 {c:UInt8} {l:List UInt8} (h1:33≤c.toNat) (h2:c.toNat<127) (h3:c≠47) (h4:c≠35):Ink (c::l):=by
 refine⟨?_,fun p hp=> ?_⟩
 ·unfold isGap
  rw [nx_ascii _ _ (by omega)]
  show(decide ((0:Int)<1) && (endsR (c.toNat:Int)||blankR (c.toNat:Int)))=false
  have h:=(Bool.or_eq_true _ _).mp (am5 am8 c.toNat h2)
  rw [Bool.not_eq_true',decide_eq_true_eq] at h
  rw [h.resolve_left (by omega),Bool.and_false]
 ·unfold cmKind
  rw [if_neg (by rw [aa2 h3];decide),if_neg (by rw [aa2 h3];decide),if_neg (by rw [aa2 h4];simp)]
theorem ac5 {c:UInt8} (h:low c):startC (c.toNat:Int)=true:=by
 obtain⟨h1,h2⟩:=h
 have h:=am5 an9 c.toNat (by omega)
 simp only [Bool.or_eq_true,decide_eq_true_eq] at h
 exact h.resolve_left (by omega)
theorem ak5 {c:UInt8} (h:low c):af0 c=true:=by
 unfold af0 partC
 rw [ac5 h,Bool.true_or,decide_eq_true (show c.toNat<128 by have:=h.2;omega)]
 rfl
theorem an4:partC (((32:UInt8).toNat:Nat):Int)=false:=by kernel_rfl
theorem ao0 (l:List UInt8):goesP false (32::l)=false:=by
 unfold goesP
 rw [nx_ascii _ _ (by decide)]
 simp only [an4,Bool.false_and,Bool.or_false,Bool.and_false]
theorem aq5 (l:List UInt8):0≤(nx (32::l)).2:=by
 rw [nx_ascii _ _ (by decide)]
 decide
end
section
open Go.RowKit
def ao9 (c:UInt8):Bool:=decide (c.toNat<128) && !startC (c.toNat:Int) && decide (c≠96∧c≠35∧c≠46∧c≠39∧c≠34∧¬(48≤c.toNat∧c.toNat≤57))
def row2 (x:List UInt8 × List UInt8):ByteArray × ByteArray:=(⟨x.1.toArray⟩,⟨(118::x.2).toArray⟩)
section
variable {s:ByteArray} {m:Bool} {i g fl ne ar:Int} {u v:Tk} {n:Nd} {p:Ps} {f:Nat}
theorem ag1 (hb:runQ s m f (.binary 1 false) p= .ok n (Zs i u 1 fl ne ar)) (hk:n.kind≠22) (hq:punctT u ⟨#[63]⟩=false):runQ s m (f+1) .cond p= .ok n (Zs i u 1 fl ne ar):=by
 show condS s (runQ s m f) p=_
 unfold condS
 rw [PM.go hb,if_neg hk,PM.go (ao4 (aa1 (by decide)) hq),if_neg (by decide)]
 rfl
theorem ab8 (hk:n.kind≠22) (ha:assigningT u=false):runQ s m (f+1) (.assigned n) (Zs i u 1 fl ne ar)= .ok n (Zs i u 1 fl ne ar):=by
 show assignedS s (runQ s m f) n _=_
 unfold assignedS
 rw [if_neg hk,PM.go (aa1 (by decide)),if_neg (by rw [ha];decide)]
 rfl
theorem ag2 {α:Type} {x:PM α} {i':Int} {u':Tk} {g' fl' ar' place:Int} {a:α} (h0:0≤ne) (h1:ne<4000) (hx:x (Zs i u g fl (ne+1) ar)= .ok a (Zs i' u' g' fl' (ne+1) ar')):deeperP place x (Zs i u g fl ne ar)= .ok a (Zs i' u' g' fl' ne ar'):=by
 unfold deeperP
 show(if 4000≤ne then _ else _)=_
 rw [if_neg (by omega)]
 show PM.bind x _ (Zs i u g fl (ne+1) ar)=_
 unfold PM.bind
 rw [hx]
 show(if ne+1≤0 then _ else _)=_
 rw [if_neg (by omega)]
 show Res.ok a (Zs _ _ _ _ (ne+1 - 1) _)=_
 rw [Int.add_sub_cancel]
 rfl
theorem aa7 (ha:runQ s m f .assign p= .ok n (Zs i u 1 fl ne ar)) (hc:punctT u ⟨#[44]⟩=false):runQ s m (f+1) .expression p= .ok n (Zs i u 1 fl ne ar):=by
 show expressionS s f (runQ s m f) p=_
 unfold expressionS
 rw [PM.go ha,PM.go (aa1 (by decide)),if_neg (by rw [hc];decide)]
 rfl
end
end
section
open Go.RowKit
section
variable {s:ByteArray} {m:Bool} {i g fl ne ar:Int} {u v t d b e:Tk} {n:Nd} {p:Ps} {f:Nat}
theorem ak6 (f:Nat) (n:Nd) (calls tmpl:Bool) (hd:punctT d ⟨#[46]⟩=true) (hp:peekP s 1 p= .ok d (Zs i d 1 fl ne ar)) (hb:Sees s 1 d.till b) (hk:b.kind=1):
  runQ s m (f+1) (.link n calls tmpl) p= .ok (.mk 38 ⟨#[]⟩ [n,leafN 1 b] n.from' b.till,true) (Zs b.till b 0 fl ne ar):=by
 show linkS s (runQ s m f) n calls tmpl _=_
 unfold linkS
 rw [PM.go hp,if_pos hd,PM.go aa8]
 have h2:propertyP s (decide (n.kind≠6)||decide (n.text≠⟨#[115,117,112,101,114]⟩)) (Zs d.till d 0 fl ne ar)= .ok (leafN 1 b) (Zs b.till b 0 fl ne ar):=by
  unfold propertyP
  rw [PM.go (aa4 hb),if_pos hk,PM.go aa8]
  rfl
 rw [PM.go h2]
 rfl
def sgB (t:Tk):Bool:=nameT t ⟨#[100,101,108,101,116,101]⟩||nameT t ⟨#[118,111,105,100]⟩||nameT t ⟨#[116,121,112,101,111,102]⟩||punctT t ⟨#[43]⟩||punctT t ⟨#[45]⟩||punctT t ⟨#[126]⟩||punctT t ⟨#[33]⟩
structure SgT (o:Tk):Prop where
 k2:o.kind≠2
 yi:nameT o ⟨#[121,105,101,108,100]⟩=false
 asy:nameT o ⟨#[97,115,121,110,99]⟩=false
 aw:nameT o ⟨#[97,119,97,105,116]⟩=false
 arr:punctT o ⟨#[61,62]⟩=false
def Sg1 (o:Tk):Prop:=sgB o=true∧o.text≠⟨#[43,43]⟩∧o.text≠⟨#[45,45]⟩
def Sg2 (o:Tk):Prop:=sgB o=false∧(punctT o ⟨#[43,43]⟩||punctT o ⟨#[45,45]⟩)=true
def SgR (s:ByteArray) (e:Tk):Int→List Tk→Prop
 |i,[]=> ∃t d b:Tk,Nm t∧Sees s 2 i t∧Sees s 1 i t∧Sees s 1 t.till d∧punctT d ⟨#[46]⟩=true∧Sees s 1 d.till b∧b.kind=1∧Sees s 1 b.till e∧t.text=⟨#[97]⟩∧b.text=⟨#[98]⟩
 |i,o::l=>Sees s 2 i o∧Sees s 1 i o∧SgT o∧(Sg1 o∨(Sg2 o∧l= []))∧SgR s e o.till l
theorem SgR.head {l:List Tk} (h:SgR s e i l): ∃v,Sees s 2 i v∧Sees s 1 i v∧v.kind≠2∧nameT v ⟨#[121,105,101,108,100]⟩=false∧nameT v ⟨#[97,115,121,110,99]⟩=false∧punctT v ⟨#[61,62]⟩=false:=by
 cases l with
 |nil=>
  obtain⟨t,d,b,h1,h2,h3,_⟩:=h
  exact⟨t,h2,h3,by rw [h1.kind];decide,h1.nameT (by decide),ac0 h1.asy,h1.punctT _⟩
 |cons o l=>exact⟨o,h.1,h.2.1,h.2.2.1.k2,h.2.2.1.yi,h.2.2.1.asy,h.2.2.1.arr⟩
theorem af9 (ho:runQ s m (f+1) (.operand 1) p= .ok n (Zs i u 1 1 ne ar)) (hk:n.kind≠22) (hu:Stp u):runQ s m (f+2) (.binary 1 false) p= .ok n (Zs i u 1 1 ne ar):=by
 show binaryS s (f+1) (runQ s m (f+1)) 1 false p=_
 unfold binaryS
 rw [PM.go ho,if_neg hk]
 obtain⟨r,r1,r2⟩:=ac4 (s:=s) (i:=i) (ne:=ne) (ar:=ar) hu
 unfold binaryS.opsL
 rw [PM.go r2,if_pos (.inr r1)]
 rfl
theorem ac2 (least:Int) (hp:peekP s 2 p= .ok v (Zs i v g fl ne ar)) (hk:v.kind≠2):runQ s m (f+1) (.operand least) p=runQ s m f .unary (Zs i v g fl ne ar):=by
 show operandS s (runQ s m f) least p=_
 unfold operandS
 rw [PM.go hp,if_pos hk]
theorem ah2 (hv:nameT v ⟨#[97,115,121,110,99]⟩=false) (hu:Sees s 1 v.till u) (har:punctT u ⟨#[61,62]⟩=false):assignS.single s m v (Zs i v g fl ne ar)= .ok false (Zs i v g fl ne ar):=by
 unfold assignS.single
 rw [PM.go (ac1 _),if_neg (by rw [hv];decide)]
 show((pure v:PM Tk)>>=_) _=_
 rw [PM.go (show(pure v:PM Tk) (Zs i v g fl ne ar)= .ok v (Zs i v g fl ne ar) from rfl),PM.go (ai9 hu _),if_pos (by rw [har];simp)]
 rfl
theorem ab7 {i' g' fl' ar' i2 g2 fl2 ar2:Int} {u' u2:Tk} {n2:Nd} (hy:nameT v ⟨#[121,105,101,108,100]⟩=false) (hv:nameT v ⟨#[97,115,121,110,99]⟩=false) (hp:peekP s 2 p= .ok v (Zs i v g fl ne ar)) (hu:Sees s 1 v.till u) (har:punctT u ⟨#[61,62]⟩=false) (h0:0≤ne) (h1:ne<4000)
  (hc:runQ s m f .cond (Zs i v g fl (ne+1) v.from')= .ok n (Zs i' u' g' fl' (ne+1) ar')) (ha:runQ s m f (.assigned n) (Zs i' u' g' fl' (ne+1) ar')= .ok n2 (Zs i2 u2 g2 fl2 (ne+1) ar2)):
  runQ s m (f+1) .assign p= .ok n2 (Zs i2 u2 g2 fl2 ne ar2):=by
 show assignS s m (runQ s m f) p=_
 unfold assignS
 rw [PM.go hp]
 refine ag2 h0 h1 ?_
 rw [PM.go (ac1 _),if_neg (by rw [hy];simp),PM.go (ah2 hv hu har),if_neg (by decide)]
 rw [PM.go (show modP (fun q=> { q with arrow:=v.from' }) (Zs i v g fl (ne+1) ar)= .ok () (Zs i v g fl (ne+1) v.from') from rfl),PM.go hc]
 exact ha
end
end
section
open Go.RowKit
section
variable {s:ByteArray} {m:Bool} {i g fl ne ar:Int} {u v t d b e:Tk} {n:Nd} {p:Ps} {f:Nat}
theorem ai4 (f:Nat) (h:Nm v) (hg:g=1∨g=2) (hp:peekP s 2 p= .ok v (Zs i v g 1 ne ar)) (hu:Sees s 1 v.till u) (hst:Stp u):runQ s m (f+7) (.binary 1 false) p= .ok (leafN 1 v) (Zs v.till u 1 1 ne ar):=
 af9 (af2 f 1 h hg hp hst.e hu) (ad5 v) hst
theorem af3 (f:Nat) (h:Nm v) (hg:g=1∨g=2) (hp:peekP s 2 p= .ok v (Zs i v g 1 ne ar)) (hu:Sees s 1 v.till u) (hst:Stp u) (hq:punctT u ⟨#[63]⟩=false) (ha:assigningT u=false) (har:punctT u ⟨#[61,62]⟩=false) (h0:0≤ne) (h1:ne<4000):
  runQ s m (f+9) .assign p= .ok (leafN 1 v) (Zs v.till u 1 1 ne v.from'):=
 ab7 (ac0 (h.ne (by decide))) (ac0 h.asy) hp hu har h0 h1 (ag1 (ai4 f h hg (ad1 hg h.sl (by decide)) hu hst) (ad5 v) hq) (ab8 (ad5 v) ha)
theorem ap5:setF 1 1 0=1:=by first|rfl|decide|kernel_rfl
theorem am4 {α:Type} {x:PM α} {y:α} {i' g' ar':Int} {u':Tk} (hx:x (Zs i u g 1 ne ar)= .ok y (Zs i' u' g' 1 ne ar')):withP 1 0 x (Zs i u g 1 ne ar)= .ok y (Zs i' u' g' 1 ne ar'):=by
 have e:({ Zs i u g 1 ne ar with flags:=setF (Zs i u g 1 ne ar).flags 1 0 } :Ps)=Zs i u g 1 ne ar:=by
  show(⟨i,u,[],g,[],setF 1 1 0,ne,ar,[]⟩:Ps)=_
  rw [ap5]
  rfl
 unfold withP
 rw [e]
 unfold PM.bind
 rw [hx]
 rfl
def AsR (s:ByteArray) (e:Tk):Int→List (Tk × Tk × Option (Tk × Tk))→Prop
 |i,[]=> ∃v:Tk,Nm v∧v.text=⟨#[118]⟩∧Sees s 2 i v∧Sees s 1 i v∧Sees s 1 v.till e
 |i,(a,o,none)::l=>Nm a∧a.text=⟨#[97]⟩∧Sees s 2 i a∧Sees s 1 a.till o∧Stp o∧punctT o ⟨#[61,62]⟩=false∧punctT o ⟨#[63]⟩=false∧assigningT o=true∧AsR s e o.till l
 |i,(a,o,some (t,d))::l=>Nm a∧a.text=⟨#[99]⟩∧Sees s 2 i a∧Sees s 1 a.till o∧Stp o∧punctT o ⟨#[61,62]⟩=false∧punctT o ⟨#[63]⟩=true∧
   Nm t∧t.text=⟨#[116]⟩∧Sees s 2 o.till t∧Sees s 1 t.till d∧Stp d∧punctT d ⟨#[58]⟩=true∧AsR s e d.till l
theorem AsR.head {l:List (Tk × Tk × Option (Tk × Tk))} (h:AsR s e i l): ∃v,Sees s 2 i v∧Nm v:=by
 match l,h with
 | [],⟨v,h1,_,h2,_⟩=>exact⟨v,h2,h1⟩
 |(a,o,none)::l,⟨h1,_,h2,_⟩=>exact⟨a,h2,h1⟩
 |(a,o,some (t,d))::l,⟨h1,_,h2,_⟩=>exact⟨a,h2,h1⟩
end
end
section
open Go.RowKit
section
variable {s:ByteArray} {m:Bool} {i g fl ne ar:Int} {u v t d b e o a c q:Tk} {n:Nd} {p:Ps} {f:Nat}
structure Cls (c:Tk):Prop where
 stp:Stp c
 q:punctT c ⟨#[63]⟩=false
 asg:assigningT c=false
 arr:punctT c ⟨#[61,62]⟩=false
 com:punctT c ⟨#[44]⟩=false
def LkM (s:ByteArray) (i j:Int):Prop:= ∃b:Tk,Sees s 1 i b∧b.kind=1∧b.text=⟨#[109]⟩∧b.till=j
def LkC (s:ByteArray) (i j:Int):Prop:= ∃o a c:Tk,Sees s 1 i o∧punctT o ⟨#[40]⟩=true∧Nm a∧a.text=⟨#[97]⟩∧Sees s 2 o.till a∧Sees s 1 a.till c∧punctT c ⟨#[41]⟩=true∧Cls c∧c.till=j
def LkX (s:ByteArray) (i j:Int):Prop:= ∃o a c:Tk,Sees s 1 i o∧punctT o ⟨#[91]⟩=true∧Nm a∧a.text=⟨#[105]⟩∧Sees s 2 o.till a∧Sees s 1 a.till c∧punctT c ⟨#[93]⟩=true∧Cls c∧c.till=j
def LkO (s:ByteArray) (i:Int) (P:Int→Prop):Prop:= ∃q:Tk,Sees s 1 i q∧punctT q ⟨#[63,46]⟩=true∧P q.till
def LkI (s:ByteArray) (i:Int) (k:Nat) (j:Int):Prop:=match k with
 |0=> ∃d:Tk,Sees s 1 i d∧punctT d ⟨#[46]⟩=true∧LkM s d.till j
 |1=>LkC s i j
 |2=>LkX s i j
 |3=>LkO s i fun h=>LkM s h j
 |4=>LkO s i fun h=>LkC s h j
 |_=>LkO s i fun h=>LkX s h j
def LkR (s:ByteArray) (e:Tk):Int→List Nat→Prop
 |i,[]=>Sees s 1 i e
 |i,k::l=> ∃j,LkI s i k j∧LkR s e j l
theorem LkI.head {k:Nat} {j:Int} (h:LkI s i k j): ∃v,Sees s 1 i v∧v.kind=5:=by
 have key: ∀ {t:Tk} {x:ByteArray},punctT t x=true→t.kind=5:=fun h=>by
  unfold punctT at h
  rw [Bool.and_eq_true,decide_eq_true_eq] at h
  exact h.1
 match k,h with
 |0,⟨d,h,h2,_⟩=>exact⟨d,h,key h2⟩
 |1,⟨d,_,_,h,h2,_⟩=>exact⟨d,h,key h2⟩
 |2,⟨d,_,_,h,h2,_⟩=>exact⟨d,h,key h2⟩
 |3,⟨d,h,h2,_⟩=>exact⟨d,h,key h2⟩
 |4,⟨d,h,h2,_⟩=>exact⟨d,h,key h2⟩
 |_+5,⟨d,h,h2,_⟩=>exact⟨d,h,key h2⟩
theorem LkR.head {l:List Nat} (h:LkR s e i l): ∃v,Sees s 1 i v:=by
 match l,h with
 | [],h=>exact⟨e,h⟩
 |k::l,⟨j,h,_⟩=>obtain⟨v,h,_⟩:=h.head;exact⟨v,h⟩
end
end
section
open Go.RowKit
section
variable {s:ByteArray} {p:Nat}
def Ink0 (l:List UInt8):Prop:=isGap l=false∧∀p,cmKind p l=0
theorem ab5 {c:UInt8} {l:List UInt8} (h1:33≤c.toNat) (h2:c.toNat<127) (h3:c≠47) (h4:c≠35):Ink0 (c::l):=by
 refine⟨(aq0 h1 h2 h3 h4).1,fun p=> ?_⟩
 unfold cmKind
 rw [if_neg (by rw [aa2 h3];decide),if_neg (by rw [aa2 h3];decide),if_neg (by rw [aa2 h4];simp)]
end
theorem ab4 {g:Int} {c:UInt8} {l:List UInt8} {n:Nat} (hc:ao9 c=true) (h47:c≠47) (hp:pct g (c::l)=n) (hn:n≠0):plainT g (c::l)= .fine 5 n:=by
 unfold ao9 at hc
 rw [Bool.and_eq_true,Bool.and_eq_true,decide_eq_true_eq,decide_eq_true_eq,Bool.not_eq_true'] at hc
 obtain⟨⟨h1,h2⟩,h3,h4,h5,h6,h7,h8⟩:=hc
 have hdig:digAt (c::l)=false:=by
  unfold digAt
  rw [decide_eq_false_iff_not]
  exact h8
 have hname:nameL false (c::l)=0:=by
  unfold nameL
  rw [nx_ascii _ _ h1,if_neg]
  rintro⟨_,h⟩
  simp only at h
  rw [h2] at h
  cases h
 unfold plainT
 rw [if_neg (by simp),if_neg (by rw [aa2 h3];decide),if_neg (by rw [aa2 h4];decide),if_neg (by rw [hdig,aa2 h5];simp),if_neg (by rw [aa2 h6,aa2 h7];simp),if_neg (by rintro⟨_,h⟩;rw [aa2 h47] at h;cases h),if_neg (by rw [hname];simp),hp,if_pos hn]
theorem ae6 {g:Int} {c:UInt8} {l:List UInt8} (h:c≠47):pct g (c::l)=match pctRow.find? (pctIs (c::l)) with|some w=>w.length|none=>0:=by
 unfold pct
 rw [if_neg (by rintro⟨_,h1⟩;rw [aa2 h] at h1;cases h1),if_neg (by rintro⟨_,h1⟩;rw [aa2 h] at h1;cases h1)]
 rfl
theorem aj9 {g:Int} {c:UInt8} {l:List UInt8} (hc:low c):plainT g (46::c::l)= .fine 5 1:=by
 obtain⟨h1,h2⟩:=hc
 have hdig:digAt (46::c::l)=false:=rfl
 have hdig2:digAt (c::l)=false:=by
  unfold digAt
  rw [decide_eq_false_iff_not]
  omega
 have hname:nameL false (46::c::l)=0:=by
  unfold nameL
  rw [nx_ascii _ _ (by decide),if_neg]
  rintro⟨_,h⟩
  revert h
  decide
 have h46:c≠46:=by rintro rfl;simp at h1
 have hpct:pct g (46::c::l)=1:=by
  rw [ae6 (by decide)]
  have hf:pctRow.find? (pctIs (46::c::l))=some [46]:=by
   have hb:(46==c)=false:=beq_eq_false_iff_ne.2 (Ne.symm h46)
   simp [pctRow,pctIs,Lib.hasPrefix,List.find?,hb,List.isPrefixOf]
  rw [hf]
  rfl
 unfold plainT
 rw [if_neg (by simp),if_neg (by rw [aa2 (by decide)];decide),if_neg (by rw [aa2 (by decide)];decide),if_neg (by rw [hdig,List.drop_succ_cons,List.drop_zero,hdig2];simp),if_neg (by rw [aa2 (by decide),aa2 (by decide)];simp),if_neg (by rintro⟨_,h⟩;rw [aa2 (by decide)] at h;cases h),if_neg (by rw [hname];simp),hpct,if_pos (by decide)]
end
section
open Go.RowKit
theorem ai5 {c:UInt8} (l:List UInt8) (h:c=46∨c=40∨c=91∨c=63∨c=41∨c=93):goesP false (c::l)=false∧0≤(nx (c::l)).2:=by
 have key: ∀d:UInt8,d.toNat<128→partC (((d).toNat:Nat):Int)=false→goesP false (d::l)=false∧0≤(nx (d::l)).2:=by
  intro d h1 h2
  refine⟨?_,by rw [nx_ascii _ _ h1];exact(show(0:Int)≤1 by decide)⟩
  unfold goesP
  rw [nx_ascii _ _ h1]
  simp only [h2,Bool.false_and,Bool.or_false,Bool.and_false]
 rcases h with rfl|rfl|rfl|rfl|rfl|rfl<;>exact key _ (by decide) (by kernel_rfl)
section
variable {s:ByteArray} {p:Nat} {l:List UInt8}
theorem ap6 {c:UInt8} (h:c=41∨c=93) (a b:Int):Cls ⟨5,⟨#[c]⟩,a,b,false⟩:=by
 rcases h with rfl|rfl<;>exact⟨⟨.inr rfl,⟨rfl,rfl,rfl,rfl,(show¬(5:Int)=7 by decide),(show¬(5:Int)=8 by decide),rfl,rfl⟩⟩,rfl,rfl,rfl,rfl⟩
end
end
section
open Go.RowKit
section
variable {s:ByteArray} {m:Bool} {i j g ne ar ar2 c0 k0:Int} {t u v w tk:Tk} {n k:Nd} {p q:Ps} {f:Nat}
structure Opn (c:UInt8) (t:Tk):Prop where
 kind:t.kind=5
 text:t.text=⟨#[c]⟩
theorem Opn.name {c:UInt8} (h:Opn c t) (x:ByteArray):nameT t x=false:=aa3 (by rw [h.kind];decide)
theorem Opn.no {c:UInt8} (h:Opn c t) {x:ByteArray} (hx:(⟨#[c]⟩:ByteArray)≠x):punctT t x=false:=ai1 (by rw [h.text];exact hx)
theorem Opn.yes {c:UInt8} (h:Opn c t):punctT t ⟨#[c]⟩=true:=by
 unfold punctT
 rw [h.kind,h.text]
 simp
theorem Opn.slash {c:UInt8} (h:Opn c t) (hc:c≠47):ac7 t=false:=by
 unfold ac7
 rw [h.text]
 exact aa2 hc
theorem ap0 (h2:t.kind≠2) (hy:nameT t ⟨#[121,105,101,108,100]⟩=false) (ha:nameT t ⟨#[97,115,121,110,99]⟩=false) (hp:peekP s 2 p= .ok t (Zs i t g 1 ne ar)) (hs:peekP s 2 (Zs i t g 1 (ne+1) t.from')= .ok t (Zs i t g 1 (ne+1) t.from'))
  (hun:runQ s m (f+1) .unary (Zs i t g 1 (ne+1) t.from')= .ok n (Zs j u 1 1 (ne+1) ar2)) (hk:n.kind≠22) (hu:Cls u) (hv:Sees s 1 t.till v) (hvr:punctT v ⟨#[61,62]⟩=false) (h0:0≤ne) (h1:ne<4000):
  runQ s m (f+5) .assign p= .ok n (Zs j u 1 1 ne ar2):=by
 have e1:runQ s m (f+2) (.operand 1) (Zs i t g 1 (ne+1) t.from')= .ok n (Zs j u 1 1 (ne+1) ar2):=(ac2 (f:=f+1) 1 hs h2).trans hun
 have e2:runQ s m (f+3) (.binary 1 false) (Zs i t g 1 (ne+1) t.from')= .ok n (Zs j u 1 1 (ne+1) ar2):=af9 (f:=f+1) e1 hk hu.stp
 have e3:runQ s m (f+4) .cond (Zs i t g 1 (ne+1) t.from')= .ok n (Zs j u 1 1 (ne+1) ar2):=ag1 (f:=f+3) e2 hk hu.q
 exact ab7 (f:=f+4) hy ha hp hv hvr h0 h1 e3 (ab8 (f:=f+3) hk hu.asg)
theorem an3 {c:UInt8} (hc:c=40∨c=91) (ht:Opn c t) (hs:peekP s 2 (Zs i t g 1 ne ar)= .ok t (Zs i t g 1 ne ar)) (hb:runQ s m (f+1) (.base t true) (Zs i t g 1 ne ar)= .ok n q) (h22:n.kind≠22) (h1:n.kind≠1) (hq:peekP s 1 q= .ok u (Zs j u 1 1 ne ar2)) (hu:Endy u):
  runQ s m (f+3) .unary (Zs i t g 1 ne ar)= .ok n (Zs j u 1 1 ne ar2):=by
 have hl:runQ s m (f+2) .leftHand (Zs i t g 1 ne ar)= .ok n (Zs j u 1 1 ne ar2):=by
  show leftHandS s (f+1) (runQ s m (f+1)) _=_
  unfold leftHandS
  rw [PM.go hs,PM.go (ac1 _)]
  show(runQ s m (f+1) (.base t true)>>=_) _=_
  rw [PM.go hb,if_neg h22,if_neg (by rw [show decide (n.kind=1)=false from decide_eq_false h1];simp)]
  unfold leftHandS.linkL
  rw [PM.go hq,if_neg (by rw [hu.opt];decide),PM.go (ad8 f n true true hu (aa1 (by decide))),if_neg (show¬((false:Bool)=true) by decide)]
  rfl
 show unaryS s (runQ s m (f+2)) _=_
 unfold unaryS
 have e1: ∀x:ByteArray,x=⟨#[43]⟩∨x=⟨#[45]⟩∨x=⟨#[126]⟩∨x=⟨#[33]⟩∨x=⟨#[43,43]⟩∨x=⟨#[45,45]⟩→punctT t x=false:=by
  intro x hx
  refine ht.no ?_
  rcases hc with rfl|rfl<;>rcases hx with rfl|rfl|rfl|rfl|rfl|rfl<;>decide
 rw [PM.go hs,if_neg (by rw [ht.name,ht.name,ht.name,e1 _ (.inl rfl),e1 _ (.inr (.inl rfl)),e1 _ (.inr (.inr (.inl rfl))),e1 _ (.inr (.inr (.inr (.inl rfl))))];decide),PM.go (ac1 _),if_neg (by rw [ht.name];simp),if_neg (by rw [e1 _ (.inr (.inr (.inr (.inr (.inl rfl))))),e1 _ (.inr (.inr (.inr (.inr (.inr rfl)))))];decide),PM.go hl,if_neg h22,PM.go (aa1 (by decide)),if_neg (by rw [hu.inc,hu.dec];simp)]
 rfl
theorem ap9 {c:UInt8} (hc:c=40∨c=91) (ht:Opn c t) (p:Ps):runQ s m (f+2) (.base t true) p=(if c=40 then runQ s m f (.paren t) p else runQ s m f .array p):=by
 show baseS s m (runQ s m (f+1)) t true p=_
 unfold baseS
 rw [if_neg (by rw [ht.name];decide),if_neg (by rw [ht.name];decide),if_neg (by rw [ht.name];decide)]
 show primaryS (runQ s m f) t p=_
 have hk:=ht.kind
 unfold primaryS
 rw [if_neg (by omega),if_neg (by omega),if_neg (by omega),if_neg (by omega)]
 rcases hc with rfl|rfl
 ·rw [if_neg (by rw [ht.no (by decide)];decide),if_neg (by rw [ht.no (by decide)];decide),if_pos ht.yes,if_pos rfl]
 ·rw [if_pos ht.yes,if_neg (by decide)]
theorem al5 (hv:punctT v ⟨#[46,46,46]⟩=false) (h:runQ s m f .assign (Zs i v 2 1 ne ar)= .ok k q):runQ s m (f+1) .spread (Zs i v 2 1 ne ar)= .ok k q:=by
 show spreadS s (runQ s m f) _=_
 unfold spreadS
 rw [PM.go (aa1 (by decide)),if_neg (by rw [hv];decide)]
 exact h
theorem am9 (hk:k.kind≠18) (p:Ps):commaP s k p= .ok () p:=by
 unfold commaP
 rw [if_neg hk]
 rfl
theorem an0 (_ht:Opn 40 t) (hv:Sees s 2 t.till v) (hv1:punctT v ⟨#[41]⟩=false) (hv2:punctT v ⟨#[46,46,46]⟩=false) (hx:runQ s m f .assign (Zs t.till v 2 1 ne t.from')= .ok k (Zs j u 1 1 ne ar2)) (hk:k.kind≠18) (hj:k.till=j) (hju:Sees s 1 j u) (hu:Opn 41 u) (hw:Sees s 1 u.till w) (hwa:punctT w ⟨#[61,62]⟩=false):
  runQ s m (f+3) (.paren t) (Zs i t g 1 ne t.from')= .ok (.mk 26 ⟨#[]⟩ [k] t.from' u.till) (Zs u.till w 1 1 ne ar2):=by
 show parenQ s (runQ s m (f+2)) t _=_
 unfold parenQ
 have hone:(if 4194304<([]:List Nd).length then outP else do
   let k←runQ s m (f+1) .spread
   commaP s k
   return ([]:List Nd)++ [k]:PM (List Nd)) (Zs t.till v 2 1 ne t.from')= .ok [k] (Zs j u 1 1 ne ar2):=by
  rw [if_neg (by decide),PM.go (al5 hv2 hx),PM.go (am9 hk _)]
  rfl
 have hl:listP s ⟨#[41]⟩ 2 (fun kids=>if 4194304<kids.length then outP else do
   let k←runQ s m (f+1) .spread
   commaP s k
   return kids++ [k]) (f+1) ([]:List Nd) false (Zs t.till t 0 1 ne t.from')= .ok ([k],false) (Zs u.till u 0 1 ne ar2):=by
  unfold listP
  rw [PM.go (aa4 hv),if_neg (by rw [hv1];decide),PM.go hone,PM.go (aa1 (by decide)),if_pos hu.yes,PM.go aa8]
  rfl
 have ha:runQ s m (f+2) (.arguments t.from') (Zs t.till t 0 1 ne t.from')= .ok (.mk 36 ⟨#[]⟩ [k] t.from' u.till) (Zs u.till u 0 1 ne ar2):=by
  show argumentsQ s (f+1) (runQ s m (f+1)) t.from' _=_
  unfold argumentsQ
  rw [PM.go (am4 hl)]
  rfl
 rw [PM.go (ac1 _),PM.go aa8,PM.go ha]
 have hp:(if t.from'=(Zs i t g 1 ne t.from').arrow then do
   let next←peekP s 1
   return (punctT next ⟨#[61,62]⟩ && !next.line)
  else return false:PM Bool) (Zs u.till u 0 1 ne ar2)= .ok false (Zs u.till w 1 1 ne ar2):=by
  rw [if_pos (show t.from'=(Zs i t g 1 ne t.from').arrow from rfl),PM.go (aa4 hw),hwa]
  rfl
 rw [PM.go hp,if_neg (by decide)]
 have hb:trailingQ s (.mk 36 ⟨#[]⟩ [k] t.from' u.till) (Zs u.till w 1 1 ne ar2)= .ok false (Zs u.till w 1 1 ne ar2):=by
  unfold trailingQ
  rw [if_neg (show¬(4194304<(Nd.mk 36 ⟨#[]⟩ [k] t.from' u.till).kids.length) from by show¬(4194304<1);decide)]
  show(lookP s k.till>>=_) _=_
  rw [hj,PM.go (ai9 hju _),hu.no (by decide)]
  rfl
 unfold parenX
 rw [if_neg (by
  show¬(([k].isEmpty|| [k].any (fun k=>decide (k.kind=18)))=true)
  rw [List.any_cons,List.any_nil,decide_eq_false hk];simp),PM.go hb,if_neg (by decide)]
 rfl
end
section
variable {s:ByteArray}
theorem ah3 {m:Bool} {t:Tk} {f:Nat} (ht:Opn 123 t) (p:Ps):runQ s m (f+1) (.statement t true) p=runQ s m f .block p:=by
 show statementQ s m (runQ s m f) t true p=_
 unfold statementQ
 rw [if_pos (.inr (by rw [ht.kind];decide))]
 unfold statementS
 rw [if_neg (by decide),if_pos ht.yes]
theorem ah5 {m:Bool} {t:Tk} {f:Nat} (p:Ps):runQ s m (f+1) (.modular t false) p= .ok .zero p:=rfl
theorem al8 {m:Bool} {t:Tk} {f:Nat} {i g fl ne ar:Int} {r:Res Nd} (hs:runQ s m (f+1) (.statement t true) (Zs i t g fl (ne+1) ar)=r):
  (do
    let m'←runQ s m (f+1) (.modular t false)
    if m'.kind=0 then runQ s m (f+1) (.statement t true) else return m':PM Nd) (Zs i t g fl (ne+1) ar)=r:=by
 rw [PM.go (ah5 _),if_pos (show Nd.zero.kind=0 from rfl)]
 exact hs
end
end
section
open Go.RowKit
theorem am3 (q:UInt8): ∀(b l:List UInt8),(∀c ∈ b,c≠q∧c≠10∧c≠13∧c≠92)→sc q (b++q::l)=b.length
 | [],l,_=>by rw [List.nil_append,sc_step,if_pos (.inl rfl)];rfl
 |c::b,l,h=>by
  obtain⟨h1,h2,h3,h4⟩:=h c (.head _)
  rw [List.cons_append,sc_step,if_neg (by rintro(e|e|e)<;>contradiction),if_neg h4,am3 q b l (fun c hc=>h c (.tail _ hc)),List.length_cons]
  omega
theorem ao6 {q:UInt8} {b l:List UInt8} (hb: ∀c ∈ b,c≠q∧c≠10∧c≠13∧c≠92) (hs:strC (q::(b++ [q]))=(true,0)):txt (q::(b++q::l))= .fine 4 (b.length+2):=by
 have e1:txtL (q::(b++q::l))=2+b.length:=by
  show(if sc q (b++q::l)<(b++q::l).length∧((b++q::l).drop (sc q (b++q::l))).head? =some q then 2+sc q (b++q::l) else min (1+sc q (b++q::l)) ((b++q::l).length+1))=_
  rw [am3 q b l hb,if_pos ⟨by simp,by simp⟩]
 have e2:(q::(b++q::l)).take (2+b.length)=q::(b++ [q]):=by
  rw [show 2+b.length=(b.length+1)+1 by omega,List.take_succ_cons,List.take_append]
  simp
  exact List.take_of_length_le (by omega)
 unfold txt
 rw [e1,e2,hs,if_pos rfl,Nat.add_comm]
theorem aj7 {g:Int} {q:UInt8} (hq:q=39∨q=34) {b l:List UInt8} (hb: ∀c ∈ b,c≠q∧c≠10∧c≠13∧c≠92) (hs:strC (q::(b++ [q]))=(true,0)):plainT g ((q::(b++ [q]))++l)= .fine 4 (q::(b++ [q])).length:=by
 have e:(q::(b++ [q]))++l=q::(b++q::l):=by simp
 have h:=ao6 (l:=l) hb hs
 rw [e]
 unfold plainT
 have hn: ∀d:UInt8,d≠39→d≠34→q≠d:=by rcases hq with rfl|rfl<;>intro d h1 h2<;>exact fun e=>by subst e;contradiction
 have hd:digAt (q::(b++q::l))=false:=by rcases hq with rfl|rfl<;>rfl
 rw [if_neg (by simp),if_neg (by rw [aa2 (hn _ (by decide) (by decide))];decide),if_neg (by rw [aa2 (hn _ (by decide) (by decide))];decide),if_neg (by rw [hd,aa2 (hn 46 (by decide) (by decide))];simp),if_pos (by rcases hq with rfl|rfl<;>simp [Lib.hasPrefix]),h]
 simp
section
variable {s:ByteArray}
theorem ai6 {r:List UInt8} : ∀(gap:List UInt8) (p:Nat) (line:Bool),(∀c ∈ gap,c=32∨c=10)→s.data.toList.drop p=gap++r→∃line',btw s p line=btw s (p+gap.length) line'
 | [],p,line,_,_=>⟨line,rfl⟩
 |c::gap,p,line,h,hd=>by
  have hc:=h c (.head _)
  have hlt:=aq4 (c:=c) (l:=gap++r) hd
  have h1:isGap (c::(gap++r))=true:=by
   unfold isGap
   rcases hc with rfl|rfl<;>(rw [nx_ascii _ _ (by decide)];rfl)
  have h2:(nx (c::(gap++r))).2.toNat=1:=by rcases hc with rfl|rfl<;>(rw [nx_ascii _ _ (by decide)];rfl)
  obtain⟨l',e⟩:=ai6 gap (p+1) (line||endsR (nx (c::(gap++r))).1) (fun c hc=>h c (.tail _ hc)) (an2 hd)
  refine⟨l',?_⟩
  rw [btw_step s p line (by omega),hd,List.cons_append,if_pos h1,h2,e,List.length_cons,show p+1+gap.length=p+(gap.length+1) by omega]
theorem ag9 {gap a l:List UInt8} {kind:Int} {p:Nat} (hgap: ∀c ∈ gap,c=32∨c=10) (hd:s.data.toList.drop p=gap++(a++l)) (hp:p≤s.size) (hi:Ink0 (a++l)) (ht: ∀g:Int,g=1∨g=2→plainT g (a++l)= .fine kind a.length):
  ∃t:Tk,t.kind=kind∧t.text=⟨a.toArray⟩∧t.till=((p+gap.length+a.length:Nat):Int)∧∀g:Int,g=1∨g=2→Sees s g p t:=by
 obtain⟨line,hb⟩:=ai6 gap p false hgap hd
 have hq:=ag8 hd
 have hf:=af8 hd hp
 refine⟨⟨kind,⟨a.toArray⟩,((p+gap.length:Nat):Int),((p+gap.length+a.length:Nat):Int),line⟩,rfl,rfl,rfl,fun g hg=> ?_⟩
 refine⟨by omega,by omega,p+gap.length,a.length,?_,?_⟩
 ·rw [Int.toNat_natCast]
  have hb2:btw s p false= .fine (p+gap.length) line []:=hb.trans (ao1 hq hf ⟨hi.1,hi.2 _⟩)
  have ht2:=ht g hg
  rw [←hq] at ht2
  unfold nxt tokT
  rcases hg with rfl|rfl<;>
  ·rw [if_neg (by rintro(h|h|⟨h,_⟩)<;>omega),if_neg (by decide),hb2]
   simp only
   rw [if_neg (by decide),if_neg (by decide),if_neg (by decide),ht2]
 ·unfold tkOf
  rw [ak8 hq]
end
section
variable {s:ByteArray} {m:Bool} {i j ne ar ar2:Int} {t u v w b o e:Tk} {n r:Nd} {p:Ps} {f:Nat}
theorem ad9 {c:UInt8} (h:Opn c u) (hc:c=59∨c=44∨c=43∨c=41):Endy u:=by
 have hk:=h.kind
 exact⟨h.no (by rcases hc with rfl|rfl|rfl|rfl<;>decide),h.no (by rcases hc with rfl|rfl|rfl|rfl<;>decide),h.no (by rcases hc with rfl|rfl|rfl|rfl<;>decide),h.no (by rcases hc with rfl|rfl|rfl|rfl<;>decide),by omega,by omega,h.no (by rcases hc with rfl|rfl|rfl|rfl<;>decide),h.no (by rcases hc with rfl|rfl|rfl|rfl<;>decide)⟩
theorem ai2 {c:UInt8} (h:Opn c u) (hc:c=59∨c=44):assigningT u=false:=by
 unfold assigningT
 rw [h.text]
 rcases hc with rfl|rfl<;>(rw [Bool.and_eq_false_iff];right;decide)
theorem ak0 {c:UInt8} (h:Opn c u) (hc:c=59∨c=44):Stp u:=⟨.inr (by rw [h.text];rcases hc with rfl|rfl<;>decide),ad9 h (by rcases hc with rfl|rfl<;>simp)⟩
theorem ab9 (h:Opn 59 u):Cls u:=⟨ak0 h (.inl rfl),h.no (by decide),ai2 h (.inl rfl),h.no (by decide),h.no (by decide)⟩
theorem ac6 (h1:t.kind≠1) (h5:t.kind≠5) (hl:runQ s m f .leftHand (Zs i t 2 1 ne ar)= .ok n (Zs j u 1 1 ne ar2)) (h22:n.kind≠22) (hu:Endy u):runQ s m (f+1) .unary (Zs i t 2 1 ne ar)= .ok n (Zs j u 1 1 ne ar2):=by
 show unaryS s (runQ s m f) _=_
 unfold unaryS
 rw [PM.go (aa1 (by decide)),if_neg (by rw [aa3 h1,aa3 h1,aa3 h1,aa0 h5,aa0 h5,aa0 h5,aa0 h5];decide),PM.go (ac1 _),if_neg (by rw [aa3 h1];simp),if_neg (by rw [aa0 h5,aa0 h5];decide),PM.go hl,if_neg h22,PM.go (aa1 (by decide)),if_neg (by rw [hu.inc,hu.dec];simp)]
 rfl
theorem ag3 (h4:t.kind=4):runQ s m (f+2) (.base t true) (Zs i t 2 1 ne ar)= .ok (leafN 4 t) (Zs t.till t 0 1 ne ar):=by
 have h1:t.kind≠1:=by omega
 show baseS s m (runQ s m (f+1)) t true _=_
 unfold baseS
 rw [if_neg (by rw [aa3 h1];decide),if_neg (by rw [aa3 h1];decide),if_neg (by rw [aa3 h1];decide)]
 show primaryS (runQ s m f) t _=_
 unfold primaryS
 rw [if_pos (.inr h4),PM.go aa8,h4]
 rfl
theorem ae5 (t:Tk): ¬(leafN 4 t).kind=22:=by show¬(4:Int)=22;decide
theorem ag0 (h4:t.kind=4) (hsu:Sees s 1 t.till u) (hu:Endy u):runQ s m (f+3) .leftHand (Zs i t 2 1 ne ar)= .ok (leafN 4 t) (Zs t.till u 1 1 ne ar):=by
 show leftHandS s (f+2) (runQ s m (f+2)) _=_
 unfold leftHandS
 rw [PM.go (aa1 (by decide)),PM.go (ac1 _)]
 show(runQ s m (f+2) (.base t true)>>=_) _=_
 rw [PM.go (ag3 h4),if_neg (ae5 t),if_neg (by rw [show decide ((leafN 4 t).kind=1)=false from rfl];simp)]
 unfold leftHandS.linkL
 rw [PM.go (aa4 hsu),if_neg (by rw [hu.opt];decide),PM.go (ad8 (f+1) (leafN 4 t) true true hu (aa1 (by decide))),if_neg (show¬((false:Bool)=true) by decide)]
 rfl
theorem af4 (h4:t.kind=4) (hsd:Sees s 1 t.till o) (hd:Opn 46 o) (hb:Sees s 1 o.till b) (hk:b.kind=1) (hsu:Sees s 1 b.till u) (hu:Endy u):runQ s m (f+4) .leftHand (Zs i t 2 1 ne ar)= .ok (.mk 38 ⟨#[]⟩ [leafN 4 t,leafN 1 b] t.from' b.till) (Zs b.till u 1 1 ne ar):=by
 show leftHandS s (f+3) (runQ s m (f+3)) _=_
 unfold leftHandS
 rw [PM.go (aa1 (by decide)),PM.go (ac1 _)]
 show(runQ s m (f+3) (.base t true)>>=_) _=_
 rw [PM.go (ag3 (f:=f+1) h4),if_neg (ae5 t),if_neg (by rw [show decide ((leafN 4 t).kind=1)=false from rfl];simp)]
 unfold leftHandS.linkL
 rw [PM.go (aa4 hsd),if_neg (by rw [hd.no (by decide)];decide),PM.go (ak6 (f+2) (leafN 4 t) true true hd.yes (aa1 (by decide)) hb hk),if_pos rfl]
 unfold leftHandS.linkL
 rw [PM.go (aa4 hsu),if_neg (by rw [hu.opt];decide),PM.go (ad8 (f+2) _ true true hu (aa1 (by decide))),if_neg (show¬((false:Bool)=true) by decide)]
 rfl
theorem ab2 (hk:t.kind≠1) (h1:punctT t ⟨#[123]⟩=false) (h2:punctT t ⟨#[59]⟩=false) (he:runQ s m (f+1) .expression (Zs i t 2 1 ne ar)= .ok n (Zs j u 1 1 ne ar2)) (hu:Opn 59 u):
  runQ s m (f+3) (.statement t true) (Zs i t 2 1 ne ar)= .ok (.mk 57 ⟨#[]⟩ [n] t.from' u.till) (Zs u.till u 0 1 ne ar2):=by
 first
  |(show statementQ s m (runQ s m (f+2)) t true _=_;unfold statementQ;rw [if_pos (.inr hk)])
  |show statementS s m (runQ s m (f+2)) t true _=_
 unfold statementS
 rw [if_neg (by decide),if_neg (by rw [h1];decide),if_neg (by rw [h2];decide),if_pos hk]
 show simpleS s (runQ s m (f+1)) t _=_
 unfold simpleS
 have hsc:semicolonP s (Zs j u 1 1 ne ar2)= .ok () (Zs u.till u 0 1 ne ar2):=by
  unfold semicolonP
  rw [PM.go (aa1 (by decide)),if_pos hu.yes,PM.go aa8]
  rfl
 rw [PM.go he,PM.go hsc]
 rfl
theorem ah1 (hu:Opn 59 t):runQ s m (f+1) (.statement t true) (Zs i t 2 1 ne ar)= .ok (.mk 59 ⟨#[]⟩ [] t.from' t.till) (Zs t.till t 0 1 ne ar):=by
 first
  |(show statementQ s m (runQ s m f) t true _=_;unfold statementQ;rw [if_pos (.inr (by rw [hu.kind];decide))])
  |show statementS s m (runQ s m f) t true _=_
 unfold statementS
 rw [if_neg (by decide),if_neg (by rw [hu.no (by decide)];decide),if_pos hu.yes,PM.go aa8]
 rfl
theorem af1 {F:Nat} (h1:t.kind≠1) (h2:t.kind≠2) (h5:t.kind≠5) (hl:runQ s m F .leftHand (Zs i t 2 1 (ne+1) t.from')= .ok n (Zs j u 1 1 (ne+1) ar2)) (h22:n.kind≠22) (hst:Stp u) (hq:punctT u ⟨#[63]⟩=false) (has:assigningT u=false) (hv:Sees s 1 t.till v) (hvr:punctT v ⟨#[61,62]⟩=false) (h0:0≤ne) (h9:ne<4000):
  runQ s m (F+5) .assign (Zs i t 2 1 ne ar)= .ok n (Zs j u 1 1 ne ar2):=by
 have e0:=ac6 h1 h5 hl h22 hst.e
 have e1:runQ s m (F+2) (.operand 1) (Zs i t 2 1 (ne+1) t.from')= .ok n (Zs j u 1 1 (ne+1) ar2):=(ac2 (f:=F+1) 1 (aa1 (by decide)) h2).trans e0
 have e2:runQ s m (F+3) (.binary 1 false) (Zs i t 2 1 (ne+1) t.from')= .ok n (Zs j u 1 1 (ne+1) ar2):=af9 (f:=F+1) e1 h22 hst
 have e3:runQ s m (F+4) .cond (Zs i t 2 1 (ne+1) t.from')= .ok n (Zs j u 1 1 (ne+1) ar2):=ag1 (f:=F+3) e2 h22 hq
 exact ab7 (f:=F+4) (aa3 h1) (aa3 h1) (aa1 (by decide)) hv hvr h0 h9 e3 (ab8 (f:=F+3) h22 has)
theorem ac8 (F:Nat) (h4:t.kind=4) (hsu:Sees s 1 t.till u) (hst:Stp u) (hq:punctT u ⟨#[63]⟩=false) (has:assigningT u=false) (har:punctT u ⟨#[61,62]⟩=false) (h0:0≤ne) (h9:ne<4000):
  runQ s m (F+8) .assign (Zs i t 2 1 ne ar)= .ok (leafN 4 t) (Zs t.till u 1 1 ne t.from'):=
 af1 (F:=F+3) (by omega) (by omega) (by omega) (ag0 (f:=F) h4 hsu hst.e) (ae5 t) hst hq has hsu har h0 h9
theorem ag4 (F:Nat) (h4:t.kind=4) (hsu:Sees s 1 t.till u) (hu:Opn 59 u) (h0:0≤ne) (h9:ne<4000):runQ s m (F+9) .expression (Zs i t 2 1 ne ar)= .ok (leafN 4 t) (Zs t.till u 1 1 ne t.from'):=
 have hc:=ab9 hu
 aa7 (ac8 F h4 hsu hc.stp hc.q hc.asg hc.arr h0 h9) hc.com
theorem al6 (F:Nat) (h4:t.kind=4) (hso:Sees s 1 t.till o) (ho:Opn 46 o) (hsb:Sees s 1 o.till b) (hb:b.kind=1) (hsu:Sees s 1 b.till u) (hu:Opn 59 u) (h0:0≤ne) (h9:ne<4000):runQ s m (F+10) .expression (Zs i t 2 1 ne ar)= .ok (.mk 38 ⟨#[]⟩ [leafN 4 t,leafN 1 b] t.from' b.till) (Zs b.till u 1 1 ne t.from'):=
 have hc:=ab9 hu
 aa7 (af1 (F:=F+4) (by omega) (by omega) (by omega) (af4 (f:=F) h4 hso ho hsb hb hsu hc.stp.e) (show¬(38:Int)=22 by decide) hc.stp hc.q hc.asg hso (ho.no (by decide)) h0 h9) hc.com
theorem al7 (F:Nat) (h4:t.kind=4) (hso:Sees s 1 t.till o) (ho:Opn 44 o) (hsb:Sees s 2 o.till b) (hb:Nm b) (hsu:Sees s 1 b.till u) (hu:Opn 59 u) (h0:0≤ne) (h9:ne<4000): ∃a2,runQ s m (F+12) .expression (Zs i t 2 1 ne ar)= .ok (.mk 32 ⟨#[]⟩ [leafN 4 t,leafN 1 b] t.from' b.till) (Zs b.till u 1 1 ne a2):=by
 have hc:=ab9 hu
 have ha:=ac8 (s:=s) (m:=m) (i:=i) (ar:=ar) (F+3) h4 hso (ak0 ho (.inr rfl)) (ho.no (by decide)) (ai2 ho (.inr rfl)) (ho.no (by decide)) h0 h9
 have hb2:=af3 (s:=s) (m:=m) (i:=o.till) (ne:=ne) (ar:=t.from') (F+2) hb (.inr rfl) (aa4 (tk:=o) hsb) hsu hc.stp hc.q hc.asg hc.arr h0 h9
 refine⟨b.from',?_⟩
 show expressionS s (F+11) (runQ s m (F+11)) _=_
 unfold expressionS
 rw [PM.go ha,PM.go (aa1 (by decide)),if_pos ho.yes]
 unfold expressionS.seqL
 rw [PM.go (ap3 (aa1 (by decide)) ho.yes),if_pos rfl,PM.go hb2]
 unfold expressionS.seqL
 rw [PM.go (ao4 (aa1 (by decide)) hc.com),if_neg (by decide)]
 rfl
theorem ak3 (F:Nat) (ht:Opn 40 t) (hsv2:Sees s 2 t.till v) (hsv1:Sees s 1 t.till v) (h4:v.kind=4) (hso:Sees s 1 v.till o) (ho:Opn 41 o) (hsu:Sees s 1 o.till u) (hu:Opn 59 u) (h0:0≤ne) (h9:ne<3999): ∃a2,runQ s m (F+20) .expression (Zs i t 2 1 ne ar)= .ok (.mk 26 ⟨#[]⟩ [leafN 4 v] t.from' o.till) (Zs o.till u 1 1 ne a2):=by
 have hc:=ab9 hu
 have hco:Cls o:=by
  have h:=ap6 (c:=41) (.inl rfl) o.from' o.till
  exact⟨⟨.inr (by rw [ho.text];decide),ad9 ho (by simp)⟩,ho.no (by decide),by unfold assigningT;rw [ho.text,Bool.and_eq_false_iff];right;decide,ho.no (by decide),ho.no (by decide)⟩
 have h5:punctT v ⟨#[41]⟩=false:=aa0 (by omega)
 have hin:=ac8 (s:=s) (m:=m) (i:=t.till) (ne:=ne+1) (ar:=t.from') (F+0) h4 hso hco.stp hco.q hco.asg hco.arr (by omega) (by omega)
 have hp:=an0 (m:=m) (f:=F+8) (i:=i) (g:=2) (ne:=ne+1) (t:=t) (v:=v) (u:=o) (w:=u) (k:=leafN 4 v) ht hsv2 h5 (aa0 (by omega)) hin (show¬(4:Int)=18 by decide) rfl hso ho hsu hc.arr
 have hb:=(ap9 (s:=s) (m:=m) (f:=F+11) (.inl rfl) ht (Zs i t 2 1 (ne+1) t.from')).trans ((if_pos rfl).trans hp)
 have hun:=an3 (s:=s) (m:=m) (f:=F+12) (.inl rfl) ht (aa1 (by decide)) hb (show¬(26:Int)=22 by decide) (show¬(26:Int)=1 by decide) (aa1 (by decide)) hc.stp.e
 have ha:=ap0 (s:=s) (m:=m) (f:=F+14) (ne:=ne) (ar:=ar) (i:=i) (g:=2) (p:=Zs i t 2 1 ne ar) (by rw [ht.kind];decide) (ht.name _) (ht.name _) (aa1 (by decide)) (aa1 (by decide)) hun (show¬(26:Int)=22 by decide) hc hsv1 (aa0 (by omega)) h0 (by omega)
 exact⟨_,aa7 (f:=F+19) ha hc.com⟩
theorem al3 (least:Int) (ho:runQ s m (f+1) (.operand least) p= .ok n (Zs i u 1 1 ne ar)) (hk:n.kind≠22) (hu:Stp u):runQ s m (f+2) (.binary least false) p= .ok n (Zs i u 1 1 ne ar):=by
 show binaryS s (f+1) (runQ s m (f+1)) least false p=_
 unfold binaryS
 rw [PM.go ho,if_neg hk]
 obtain⟨r,r1,r2⟩:=ac4 (s:=s) (i:=i) (ne:=ne) (ar:=ar) hu
 unfold binaryS.opsL
 rw [PM.go r2,if_pos (.inr r1)]
 rfl
theorem al9 (h:Opn 43 o):Opr o:=⟨by rw [h.kind];rfl,by rw [h.text];decide,by rw [h.text];decide,by rw [h.text];decide,ad9 h (by simp)⟩
theorem aj5 (F:Nat) (h4:t.kind=4) (hso:Sees s 1 t.till o) (ho:Opn 43 o) (hsb:Sees s 2 o.till b) (hb:Nm b) (hsu:Sees s 1 b.till u) (hu:Opn 59 u) (h0:0≤ne) (h9:ne<4000):runQ s m (F+14) .expression (Zs i t 2 1 ne ar)= .ok (.mk 29 ⟨#[43]⟩ [leafN 4 t,leafN 1 b] t.from' b.till) (Zs b.till u 1 1 ne t.from'):=by
 have hc:=ab9 hu
 have hop:=al9 ho
 have hl:=ag0 (s:=s) (m:=m) (f:=F+5) (i:=i) (ne:=ne+1) (ar:=t.from') h4 hso hop.e
 have e0:=ac6 (by omega) (by omega) hl (ae5 t) hop.e
 have e1:runQ s m (F+10) (.operand 1) (Zs i t 2 1 (ne+1) t.from')= .ok (leafN 4 t) (Zs t.till o 1 1 (ne+1) t.from'):=(ac2 (f:=F+9) 1 (aa1 (by decide)) (by omega)).trans e0
 have hlv:levelB o.text=levelB ⟨#[43]⟩:=by rw [ho.text]
 have er:runQ s m (F+10) (.binary (levelB o.text+1) false) (Zs o.till o 0 1 (ne+1) t.from')= .ok (leafN 1 b) (Zs b.till u 1 1 (ne+1) t.from'):=al3 (f:=F+8) _ (af2 (F+3) _ hb (.inr rfl) (aa4 (tk:=o) hsb) hc.stp.e hsu) (ad5 b) hc.stp
 have e2:runQ s m (F+11) (.binary 1 false) (Zs i t 2 1 (ne+1) t.from')= .ok (.mk 29 ⟨#[43]⟩ [leafN 4 t,leafN 1 b] t.from' b.till) (Zs b.till u 1 1 (ne+1) t.from'):=by
  show binaryS s (F+10) (runQ s m (F+10)) 1 false _=_
  unfold binaryS
  rw [PM.go e1,if_neg (ae5 t)]
  unfold binaryS.opsL
  rw [PM.go (ah7 hop),if_neg (by show¬(levelB o.text<1∨levelB o.text=0);have:=hop.lo;omega),if_neg (by show¬(_=true);simp only [ho.text];generalize logicalN (leafN 4 t)=x;generalize decide ((leafN 4 t).kind=27)=y;generalize decide ((leafN 4 t).kind=34)=z;revert x y z;decide),PM.go aa8]
  have hr:(if o.text=⟨#[42,42]⟩ then (do
    let u←peekP s 2
    deeperP u.from' (runQ s m (F+10) (.binary (levelB o.text) false)))
   else runQ s m (F+10) (.binary (levelB o.text+1) (decide (o.text=⟨#[63,63]⟩))):PM Nd) (Zs o.till o 0 1 (ne+1) t.from')= .ok (leafN 1 b) (Zs b.till u 1 1 (ne+1) t.from'):=by
   rw [if_neg (by rw [ho.text];decide),show decide (o.text=⟨#[63,63]⟩)=false by rw [ho.text];decide]
   exact er
  rw [PM.go hr]
  obtain⟨r,r1,r2⟩:=ac4 (s:=s) (i:=b.till) (ne:=ne+1) (ar:=t.from') hc.stp
  have hnode:nodeP 29 o.text (leafN 4 t).from' [leafN 4 t,leafN 1 b] (Zs b.till u 1 1 (ne+1) t.from')= .ok (.mk 29 ⟨#[43]⟩ [leafN 4 t,leafN 1 b] t.from' b.till) (Zs b.till u 1 1 (ne+1) t.from'):=by rw [ho.text];rfl
  rw [PM.go hnode]
  unfold binaryS.opsL
  rw [PM.go r2,if_pos (.inr r1)]
  rfl
 have h22:(Nd.mk 29 ⟨#[43]⟩ [leafN 4 t,leafN 1 b] t.from' b.till).kind≠22:=show¬(29:Int)=22 by decide
 have e3:=ag1 (s:=s) (m:=m) (f:=F+11) e2 h22 hc.q
 exact aa7 (f:=F+13) (ab7 (f:=F+12) (aa3 (by omega)) (aa3 (by omega)) (aa1 (by decide)) hso (ho.no (by decide)) h0 h9 e3 (ab8 (f:=F+11) h22 hc.asg)) hc.com
theorem aj1 (F:Nat) (hb:Nm t) (hkw:oneOf t.text kwW=false) (hsu:Sees s 1 t.till u) (hu:Opn 59 u) (h0:0≤ne) (h9:ne<4000):
  runQ s m (F+13) (.statement t true) (Zs i t 2 1 ne ar)= .ok (.mk 57 ⟨#[]⟩ [leafN 1 t] t.from' u.till) (Zs u.till u 0 1 ne t.from'):=by
 have hc:=ab9 hu
 have hk:=hb.kind
 have he:runQ s m (F+11) .expression (Zs i t 2 1 ne ar)= .ok (leafN 1 t) (Zs t.till u 1 1 ne t.from'):=aa7 (f:=F+10) (af3 (F+1) hb (.inr rfl) (aa1 (by decide)) hsu hc.stp hc.q hc.asg hc.arr h0 h9) hc.com
 have hne: ∀x,oneOf x kwW=true→¬t.text=x:=fun x hx=>ag5 hkw hx
 have hsc:semicolonP s (Zs t.till u 1 1 ne t.from')= .ok () (Zs u.till u 0 1 ne t.from'):=by
  unfold semicolonP
  rw [PM.go (aa1 (by decide)),if_pos hu.yes,PM.go aa8]
  rfl
 have hS:statementS s m (runQ s m (F+12)) t true (Zs i t 2 1 ne ar)= .ok (.mk 57 ⟨#[]⟩ [leafN 1 t] t.from' u.till) (Zs u.till u 0 1 ne t.from'):=by
  unfold statementS
  rw [if_neg (by decide),if_neg (by rw [aa0 (by omega)];decide),if_neg (by rw [aa0 (by omega)];decide),if_neg (fun h=>h hk),if_neg (by rw [hkw];decide),PM.go (ai9 hsu _),PM.go (ac1 _),if_neg (by rw [hu.no (by decide)];simp)]
  show simpleS s (runQ s m (F+11)) t _=_
  unfold simpleS
  rw [PM.go he,PM.go hsc]
  rfl
 first
  |(show statementQ s m (runQ s m (F+12)) t true _=_;unfold statementQ;rw [if_neg (by rintro(h|h);cases h;exact h hk),if_neg (hne _ (by decide)),if_neg (hne _ (by decide)),if_neg (hne _ (by decide)),if_neg (hne _ (by decide)),if_neg (hne _ (by decide)),if_neg (hne _ (by decide)),if_neg (hne _ (by decide))];exact hS)
  |exact hS
theorem ae0 {e g:Nat} {tk:Tk} {dir:Bool} {kids:List Nd} {R:Res (List Nd)} (hs2:Sees s 2 i t) (hend:endB e t=false) (hst:runQ s m (f+1) (.statement t true) (Zs i t 2 1 (ne+1) ar)= .ok n (Zs j v 0 1 (ne+1) ar2)) (h0:0≤ne) (h9:ne<4000)
  (hr:(if dir && decide (n.kind=57) then do
    let k←ofO n.kids.head?
    if k.kind=4 then dirL s (runQ s m (f+1)) false e g true (kids++ [.mk 78 k.text [] n.from' n.till]) else dirL s (runQ s m (f+1)) false e g false (kids++ [n])
   else dirL s (runQ s m (f+1)) false e g false (kids++ [n]):PM (List Nd)) (Zs j v 0 1 ne ar2)=R):
  dirL s (runQ s m (f+1)) false e (g+1) dir kids (Zs i tk 0 1 ne ar)=R:=by
 unfold dirL
 rw [PM.go (aa4 hs2),if_neg (by rw [hend];decide),PM.go (ag2 (a:=n) h0 h9 (al8 hst))]
 exact hr
structure Frm (k:Nat) (n:Nd):Prop where
 isd:k<2→n.kind=57∧∃x,n.kids.head? =some x∧x.kind=4
 nod:2≤k→n.kind≠57∨∃x,n.kids.head? =some x∧x.kind≠4
 n78:n.kind≠78
 n26:n.kind≠26
 np:noProp n=true
 sz:ndSize n≤4
def ae2:Nat→List UInt8
 |0=> [39,97,39,59]
 |1=> [34,117,115,101,32,115,116,114,105,99,116,34,59]
 |2=> [40,39,97,39,41,59]
 |3=> [39,97,39,32,43,32,98,59]
 |4=> [39,97,39,44,32,98,59]
 |5=> [59]
 |6=> [98,59]
 |_=> [39,97,39,46,98,59]
structure Tat (s:ByteArray) (p:Nat) (kind:Int) (x:ByteArray) (l:List UInt8) (p':Nat) (t:Tk):Prop where
 kind:t.kind=kind
 text:t.text=x
 till:t.till=(p':Int)
 sees: ∀g:Int,g=1∨g=2→Sees s g p t
 rest:s.data.toList.drop p'=l
 le:p'≤s.size
theorem ab3 {gap a l:List UInt8} {kind:Int} {p:Nat} (hgap: ∀c ∈ gap,c=32∨c=10) (hd:s.data.toList.drop p=gap++(a++l)) (hp:p≤s.size) (hi:Ink0 (a++l)) (ht: ∀g:Int,g=1∨g=2→plainT g (a++l)= .fine kind a.length):
  ∃p' t,Tat s p kind ⟨a.toArray⟩ l p' t:=by
 obtain⟨t,e1,e2,e3,e4⟩:=ag9 hgap hd hp hi ht
 refine⟨_,t,e1,e2,e3,e4,ag8 (ag8 hd),?_⟩
 have h1:=af8 hd hp
 have h2:=af8 (ag8 hd) h1
 exact h2
theorem ai0 {q:UInt8} (hq:q=39∨q=34) {gap b l:List UInt8} {p:Nat} (hgap: ∀c ∈ gap,c=32∨c=10) (hb: ∀c ∈ b,c≠q∧c≠10∧c≠13∧c≠92) (hs:strC (q::(b++ [q]))=(true,0)) (hd:s.data.toList.drop p=gap++((q::(b++ [q]))++l)) (hp:p≤s.size):
  ∃p' t,Tat s p 4 ⟨(q::(b++ [q])).toArray⟩ l p' t:=
 ab3 hgap hd hp (by rcases hq with rfl|rfl<;>exact ab5 (by decide) (by decide) (by decide) (by decide)) (fun _ _=>aj7 hq hb hs)
theorem aj2 {gap l:List UInt8} {p:Nat} (hgap: ∀c ∈ gap,c=32∨c=10) (hd:s.data.toList.drop p=gap++(39::97::39::l)) (hp:p≤s.size): ∃p' t,Tat s p 4 ⟨#[39,97,39]⟩ l p' t:=
 ai0 (q:=39) (.inl rfl) (b:= [97]) hgap (by decide) (by kernel_rfl) hd hp
theorem ao7 {g:Int} {c:UInt8} {l:List UInt8} (h:c=59∨c=44∨c=40∨c=41):pct g (c::l)=1:=by
 rcases h with rfl|rfl|rfl|rfl<;>exact(ae6 (by decide)).trans rfl
theorem aa5 {c:UInt8} {gap l:List UInt8} {p:Nat} (hc:c=59∨c=44∨c=40∨c=41) (hgap: ∀c ∈ gap,c=32∨c=10) (hd:s.data.toList.drop p=gap++(c::l)) (hp:p≤s.size): ∃p' t,Tat s p 5 ⟨#[c]⟩ l p' t:=
 ab3 (a:= [c]) hgap hd hp (by rcases hc with rfl|rfl|rfl|rfl<;>exact ab5 (by decide) (by decide) (by decide) (by decide)) (fun _ _=>ab4 (by rcases hc with rfl|rfl|rfl|rfl<;>decide) (by rcases hc with rfl|rfl|rfl|rfl<;>decide) (ao7 hc) (show(1:Nat)≠0 by decide))
theorem ak9 {gap l:List UInt8} {p:Nat} (hgap: ∀c ∈ gap,c=32∨c=10) (hd:s.data.toList.drop p=gap++(43::32::l)) (hp:p≤s.size): ∃p' t,Tat s p 5 ⟨#[43]⟩ (32::l) p' t:=
 ab3 (a:= [43]) hgap hd hp (ab5 (by decide) (by decide) (by decide) (by decide)) (fun _ _=>ab4 (by decide) (by decide) ((ae6 (by decide)).trans rfl) (by decide))
theorem ao5 {gap l:List UInt8} {p:Nat} (hgap: ∀c ∈ gap,c=32∨c=10) (hd:s.data.toList.drop p=gap++(46::98::l)) (hp:p≤s.size): ∃p' t,Tat s p 5 ⟨#[46]⟩ (98::l) p' t:=
 ab3 (a:= [46]) hgap hd hp (ab5 (by decide) (by decide) (by decide) (by decide)) (fun _ _=>aj9 (by decide))
theorem aj6 (l:List UInt8):goesP false (59::l)=false∧0≤(nx (59::l)).2:=by
 refine⟨?_,by rw [nx_ascii _ _ (by decide)];exact(show(0:Int)≤1 by decide)⟩
 unfold goesP
 rw [nx_ascii _ _ (by decide)]
 simp only [show partC (((59:UInt8).toNat:Nat):Int)=false by kernel_rfl,Bool.false_and,Bool.or_false,Bool.and_false]
theorem al1 {gap l:List UInt8} {p:Nat} (hgap: ∀c ∈ gap,c=32∨c=10) (hd:s.data.toList.drop p=gap++(98::59::l)) (hp:p≤s.size): ∃p' t,Tat s p 1 ⟨#[98]⟩ (59::l) p' t:=
 ab3 (a:= [98]) hgap hd hp (ab5 (by decide) (by decide) (by decide) (by decide)) (fun _ _=>ac9 (a:= []) (by decide) (ac5 (by decide)) (fun x hx=>by cases hx) (aj6 l).1 (aj6 l).2)
theorem Tat.nm {p p':Nat} {l:List UInt8} (h:Tat s p 1 ⟨#[98]⟩ l p' t):Nm t:=⟨h.kind,by rw [h.text];decide,by rw [h.text];decide,by rw [h.text];decide,by unfold ac7;rw [h.text];exact aa2 (by decide)⟩
theorem Tat.opn {c:UInt8} {p p':Nat} {l:List UInt8} (h:Tat s p 5 ⟨#[c]⟩ l p' t):Opn c t:=⟨h.kind,h.text⟩
theorem Tat.seen {g:Int} {k:Int} {x:ByteArray} {p p':Nat} {l:List UInt8} {t':Tk} (h:Tat s p k x l p' t) (hg:g=1∨g=2) (hq:t'.till=(p:Int)):Sees s g t'.till t:=by rw [hq];exact h.sees g hg
theorem Tat.go {k:Int} {x:ByteArray} {p p':Nat} {l:List UInt8} (h:Tat s p k x l p' t):t.till=(p':Int):=h.till
theorem gap0: ∀c ∈ ([]:List UInt8),c=32∨c=10:=by simp
theorem gap1: ∀c ∈ ([32]:List UInt8),c=32∨c=10:=by simp
theorem an1 (F:Nat) {gap rest:List UInt8} {p:Nat} (hgap: ∀c ∈ gap,c=32∨c=10) (hp:p≤s.size) (h0:0≤ne) (h9:ne<3999): ∀k:Nat,k<8→s.data.toList.drop p=gap++(ae2 k++rest)→
  ∃t n p' v ar2,Sees s 2 p t∧(t.kind≠0∧punctT t ⟨#[125]⟩=false)∧runQ s m (F+24) (.statement t true) (Zs p t 2 1 ne ar)= .ok n (Zs ((p':Nat):Int) v 0 1 ne ar2)∧s.data.toList.drop p'=rest∧p'≤s.size∧Frm k n
 |0,_,hd=>by
  obtain⟨p1,t,ht⟩:=aj2 hgap (l:=59::rest) hd hp
  obtain⟨p2,u,hu⟩:=aa5 (c:=59) (.inl rfl) gap0 (l:=rest) ht.rest ht.le
  have h4:=ht.kind
  have e:=ab2 (s:=s) (m:=m) (f:=F+21) (i:=p) (ne:=ne) (ar:=ar) (by omega) (aa0 (by omega)) (aa0 (by omega)) (ag4 (F+13) h4 (hu.seen (.inl rfl) ht.till) hu.opn h0 (by omega)) hu.opn
  rw [hu.till] at e
  exact⟨t,_,p2,u,_,ht.sees 2 (.inr rfl),⟨by omega,aa0 (by omega)⟩,e,hu.rest,hu.le,fun _=>⟨rfl,_,rfl,rfl⟩,fun h=>absurd h (by decide),show¬(57:Int)=78 by decide,show¬(57:Int)=26 by decide,rfl,show(2:Nat)≤4 by decide⟩
 |1,_,hd=>by
  obtain⟨p1,t,ht⟩:=ai0 (q:=34) (.inr rfl) (b:= [117,115,101,32,115,116,114,105,99,116]) hgap (l:=59::rest) (by decide) (by kernel_rfl) hd hp
  obtain⟨p2,u,hu⟩:=aa5 (c:=59) (.inl rfl) gap0 (l:=rest) ht.rest ht.le
  have h4:=ht.kind
  have e:=ab2 (s:=s) (m:=m) (f:=F+21) (i:=p) (ne:=ne) (ar:=ar) (by omega) (aa0 (by omega)) (aa0 (by omega)) (ag4 (F+13) h4 (hu.seen (.inl rfl) ht.till) hu.opn h0 (by omega)) hu.opn
  rw [hu.till] at e
  exact⟨t,_,p2,u,_,ht.sees 2 (.inr rfl),⟨by omega,aa0 (by omega)⟩,e,hu.rest,hu.le,fun _=>⟨rfl,_,rfl,rfl⟩,fun h=>absurd h (by decide),show¬(57:Int)=78 by decide,show¬(57:Int)=26 by decide,rfl,show(2:Nat)≤4 by decide⟩
 |2,_,hd=>by
  obtain⟨p0,t,ht⟩:=aa5 (c:=40) (by simp) hgap (l:=39::97::39::41::59::rest) hd hp
  obtain⟨p1,v,hv⟩:=aj2 gap0 (l:=41::59::rest) ht.rest ht.le
  obtain⟨p2,o,ho⟩:=aa5 (c:=41) (by simp) gap0 (l:=59::rest) hv.rest hv.le
  obtain⟨p3,u,hu⟩:=aa5 (c:=59) (.inl rfl) gap0 (l:=rest) ho.rest ho.le
  have h5:=ht.kind
  obtain⟨a2,e1⟩:=ak3 (s:=s) (m:=m) (i:=p) (ne:=ne) (ar:=ar) (F+2) ht.opn (hv.seen (.inr rfl) ht.till) (hv.seen (.inl rfl) ht.till) hv.kind (ho.seen (.inl rfl) hv.till) ho.opn (hu.seen (.inl rfl) ho.till) hu.opn h0 h9
  have e:=ab2 (s:=s) (m:=m) (f:=F+21) (i:=p) (ne:=ne) (ar:=ar) (by omega) (ht.opn.no (by decide)) (ht.opn.no (by decide)) e1 hu.opn
  rw [hu.till] at e
  exact⟨t,_,p3,u,_,ht.sees 2 (.inr rfl),⟨by omega,ht.opn.no (by decide)⟩,e,hu.rest,hu.le,fun h=>absurd h (by decide),fun _=> .inr ⟨_,rfl,show¬(26:Int)=4 by decide⟩,show¬(57:Int)=78 by decide,show¬(57:Int)=26 by decide,rfl,show(3:Nat)≤4 by decide⟩
 |3,_,hd=>by
  obtain⟨p1,t,ht⟩:=aj2 hgap (l:=32::43::32::98::59::rest) hd hp
  obtain⟨p2,o,ho⟩:=ak9 gap1 (l:=98::59::rest) ht.rest ht.le
  obtain⟨p3,b,hb⟩:=al1 gap1 (l:=rest) ho.rest ho.le
  obtain⟨p4,u,hu⟩:=aa5 (c:=59) (.inl rfl) gap0 (l:=rest) hb.rest hb.le
  have h4:=ht.kind
  have e:=ab2 (s:=s) (m:=m) (f:=F+21) (i:=p) (ne:=ne) (ar:=ar) (by omega) (aa0 (by omega)) (aa0 (by omega)) (aj5 (F+8) h4 (ho.seen (.inl rfl) ht.till) ho.opn (hb.seen (.inr rfl) ho.till) hb.nm (hu.seen (.inl rfl) hb.till) hu.opn h0 (by omega)) hu.opn
  rw [hu.till] at e
  exact⟨t,_,p4,u,_,ht.sees 2 (.inr rfl),⟨by omega,aa0 (by omega)⟩,e,hu.rest,hu.le,fun h=>absurd h (by decide),fun _=> .inr ⟨_,rfl,show¬(29:Int)=4 by decide⟩,show¬(57:Int)=78 by decide,show¬(57:Int)=26 by decide,rfl,show(4:Nat)≤4 by decide⟩
 |4,_,hd=>by
  obtain⟨p1,t,ht⟩:=aj2 hgap (l:=44::32::98::59::rest) hd hp
  obtain⟨p2,o,ho⟩:=aa5 (c:=44) (by simp) gap0 (l:=32::98::59::rest) ht.rest ht.le
  obtain⟨p3,b,hb⟩:=al1 gap1 (l:=rest) ho.rest ho.le
  obtain⟨p4,u,hu⟩:=aa5 (c:=59) (.inl rfl) gap0 (l:=rest) hb.rest hb.le
  have h4:=ht.kind
  obtain⟨a2,e1⟩:=al7 (s:=s) (m:=m) (i:=p) (ne:=ne) (ar:=ar) (F+10) h4 (ho.seen (.inl rfl) ht.till) ho.opn (hb.seen (.inr rfl) ho.till) hb.nm (hu.seen (.inl rfl) hb.till) hu.opn h0 (by omega)
  have e:=ab2 (s:=s) (m:=m) (f:=F+21) (i:=p) (ne:=ne) (ar:=ar) (by omega) (aa0 (by omega)) (aa0 (by omega)) e1 hu.opn
  rw [hu.till] at e
  exact⟨t,_,p4,u,_,ht.sees 2 (.inr rfl),⟨by omega,aa0 (by omega)⟩,e,hu.rest,hu.le,fun h=>absurd h (by decide),fun _=> .inr ⟨_,rfl,show¬(32:Int)=4 by decide⟩,show¬(57:Int)=78 by decide,show¬(57:Int)=26 by decide,rfl,show(4:Nat)≤4 by decide⟩
 |5,_,hd=>by
  obtain⟨p1,t,ht⟩:=aa5 (c:=59) (.inl rfl) hgap (l:=rest) hd hp
  have h5:=ht.kind
  have e:=ah1 (s:=s) (m:=m) (f:=F+23) (i:=p) (ne:=ne) (ar:=ar) ht.opn
  rw [ht.till] at e
  exact⟨t,_,p1,t,_,ht.sees 2 (.inr rfl),⟨by omega,ht.opn.no (by decide)⟩,e,ht.rest,ht.le,fun h=>absurd h (by decide),fun _=> .inl (show¬(59:Int)=57 by decide),show¬(59:Int)=78 by decide,show¬(59:Int)=26 by decide,rfl,show(1:Nat)≤4 by decide⟩
 |6,_,hd=>by
  obtain⟨p1,t,ht⟩:=al1 hgap (l:=rest) hd hp
  obtain⟨p2,u,hu⟩:=aa5 (c:=59) (.inl rfl) gap0 (l:=rest) ht.rest ht.le
  have h1:=ht.kind
  have e:=aj1 (s:=s) (m:=m) (i:=p) (ne:=ne) (ar:=ar) (F+11) ht.nm (by rw [ht.text];decide) (hu.seen (.inl rfl) ht.till) hu.opn h0 (by omega)
  rw [hu.till] at e
  exact⟨t,_,p2,u,_,ht.sees 2 (.inr rfl),⟨by omega,aa0 (by omega)⟩,e,hu.rest,hu.le,fun h=>absurd h (by decide),fun _=> .inr ⟨_,rfl,show¬(1:Int)=4 by decide⟩,show¬(57:Int)=78 by decide,show¬(57:Int)=26 by decide,rfl,show(2:Nat)≤4 by decide⟩
 |7,_,hd=>by
  obtain⟨p1,t,ht⟩:=aj2 hgap (l:=46::98::59::rest) hd hp
  obtain⟨p2,o,ho⟩:=ao5 gap0 (l:=59::rest) ht.rest ht.le
  obtain⟨p3,b,hb⟩:=al1 gap0 (l:=rest) ho.rest ho.le
  obtain⟨p4,u,hu⟩:=aa5 (c:=59) (.inl rfl) gap0 (l:=rest) hb.rest hb.le
  have h4:=ht.kind
  have e:=ab2 (s:=s) (m:=m) (f:=F+21) (i:=p) (ne:=ne) (ar:=ar) (by omega) (aa0 (by omega)) (aa0 (by omega)) (al6 (F+12) h4 (ho.seen (.inl rfl) ht.till) ho.opn (hb.seen (.inl rfl) ho.till) hb.kind (hu.seen (.inl rfl) hb.till) hu.opn h0 (by omega)) hu.opn
  rw [hu.till] at e
  exact⟨t,_,p4,u,_,ht.sees 2 (.inr rfl),⟨by omega,aa0 (by omega)⟩,e,hu.rest,hu.le,fun h=>absurd h (by decide),fun _=> .inr ⟨_,rfl,show¬(38:Int)=4 by decide⟩,show¬(57:Int)=78 by decide,show¬(57:Int)=26 by decide,rfl,show(4:Nat)≤4 by decide⟩
def frT:List Nat→List UInt8
 | []=> []
 |k::ks=>ae2 k++((if k=1 then [10] else [])++frT ks)
def aa9:List Nat→Nat
 | []=>0
 |k::ks=>if k<2 then aa9 ks+1 else 0
def aa6 (n:Nd):Bool:=decide (n.kind=78)
theorem ao3 {n:Nd} (h1:n.kind≠78) (h2:n.kind≠26): ¬aa6 (bareNd n)=true:=by
 cases n with
 |mk k t ks a b=>
  have h3: ¬k=26:=h2
  have h4: ¬k=78:=h1
  rw [bareNd,if_neg h3]
  show¬decide (k=78)=true
  rw [decide_eq_false h4]
  decide
theorem ae3 (F:Nat) {e:Nat} (he:e=0∨e=1) {tail:List UInt8} {Q:Nat→Tk→Prop} (hE: ∀(gap:List UInt8) (p:Nat),(∀c ∈ gap,c=32∨c=10)→s.data.toList.drop p=gap++tail→p≤s.size→∃t,Sees s 2 p t∧endB e t=true∧Q p t) (h0:0≤ne) (h9:ne<3998):
  ∀(ks:List Nat) (gap:List UInt8) (p:Nat) (tk:Tk) (ar:Int) (dir:Bool) (kids:List Nd) (g:Nat),(∀k ∈ ks,k<8)→(∀c ∈ gap,c=32∨c=10)→s.data.toList.drop p=gap++(frT ks++tail)→p≤s.size→ks.length<g→
   ∃l q t ar2,dirL s (runQ s m (F+24)) false e g dir kids (Zs (p:Nat) tk 0 1 ne ar)= .ok (kids++l) (Zs ((q:Nat):Int) t 2 1 ne ar2)∧Q q t∧(bareNds l).countP aa6=(if dir then aa9 ks else 0)∧l.length=ks.length∧∀n ∈ l,noProp n=true∧ndSize n≤4
 | [],gap,p,tk,ar,dir,kids,g,_,hgap,hd,hp,hg=>by
  obtain⟨t,h1,h2,h3⟩:=hE gap p hgap hd hp
  obtain⟨g,rfl⟩: ∃g',g=g'+1:=⟨g - 1,by simp at hg;omega⟩
  refine⟨[],p,t,ar,?_,h3,by rw [bareNds];cases dir<;>rfl,rfl,by simp⟩
  unfold dirL
  rw [PM.go (aa4 h1),if_pos h2,List.append_nil]
  rfl
 |k::ks,gap,p,tk,ar,dir,kids,g,hks,hgap,hd,hp,hg=>by
  rw [List.length_cons] at hg
  obtain⟨g,rfl⟩: ∃g',g=g'+1:=⟨g - 1,by omega⟩
  have hd':s.data.toList.drop p=gap++(ae2 k++((if k=1 then [10] else [])++(frT ks++tail))):=by
   rw [hd];show gap++((ae2 k++((if k=1 then [10] else [])++frT ks))++tail)=_
   simp only [List.append_assoc]
  obtain⟨t,n,p',v,ar2,f1,⟨f2,f3⟩,f4,f5,f6,f7⟩:=an1 (m:=m) (ne:=ne+1) (ar:=ar) F hgap hp (by omega) (by omega) k (hks k (.head _)) hd'
  have hgap': ∀c ∈ (if k=1 then [10] else []:List UInt8),c=32∨c=10:=by
   split<;>simp
  have hend:endB e t=false:=by
   unfold endB
   rcases he with rfl|rfl
   ·rw [if_pos rfl];exact decide_eq_false f2
   ·rw [if_neg (by decide),if_pos rfl];exact f3
  have hks': ∀k ∈ ks,k<8:=fun k h=>hks k (.tail _ h)
  by_cases hdk:dir=true∧k<2
  ·obtain⟨rfl,hk⟩:=hdk
   obtain⟨n1,x,n2,n3⟩:=f7.isd hk
   obtain⟨l,q,t2,ar3,r1,r2,r3,r4,r5⟩:=ae3 F he hE h0 h9 ks _ p' v ar2 true (kids++ [.mk 78 x.text [] n.from' n.till]) g hks' hgap' f5 f6 (by omega)
   refine⟨.mk 78 x.text [] n.from' n.till::l,q,t2,ar3,?_,r2,?_,by rw [List.length_cons,List.length_cons,r4],?_⟩
   ·refine ae0 (f:=F+23) f1 hend f4 h0 (by omega) ?_
    rw [if_pos (by rw [n1];rfl),n2]
    show(if x.kind=4 then _ else _:PM (List Nd)) _=_
    rw [if_pos n3,r1,List.append_assoc]
    rfl
   ·rw [bareNds,List.countP_cons,r3,if_pos (show aa6 (bareNd (.mk 78 x.text [] n.from' n.till))=true by rw [bareNd,if_neg (by decide)];rfl),if_pos rfl,if_pos rfl]
    show _=if k<2 then aa9 ks+1 else 0
    rw [if_pos hk]
   ·intro n' hn'
    rcases List.mem_cons.1 hn' with rfl|hn'
    ·exact⟨rfl,show(1:Nat)≤4 by decide⟩
    ·exact r5 n' hn'
  ·obtain⟨l,q,t2,ar3,r1,r2,r3,r4,r5⟩:=ae3 F he hE h0 h9 ks _ p' v ar2 false (kids++ [n]) g hks' hgap' f5 f6 (by omega)
   refine⟨n::l,q,t2,ar3,?_,r2,?_,by rw [List.length_cons,List.length_cons,r4],?_⟩
   ·refine ae0 (f:=F+23) f1 hend f4 h0 (by omega) ?_
    have r1':dirL s (runQ s m (F+23+1)) false e g false (kids++ [n]) (Zs (p':Nat) v 0 1 ne ar2)= .ok (kids++n::l) (Zs ((q:Nat):Int) t2 2 1 ne ar3):=by
     rw [r1,List.append_assoc];rfl
    cases dir with
    |false=>exact r1'
    |true=>
     have hk2:2≤k:=by
      have: ¬k<2:=fun h=>hdk ⟨rfl,h⟩
      omega
     rcases f7.nod hk2 with hn|⟨x,n2,n3⟩
     ·rw [if_neg (by rw [decide_eq_false hn];decide)]
      exact r1'
     ·by_cases hn:n.kind=57
      ·rw [if_pos (by rw [hn];rfl),n2]
       show(if x.kind=4 then _ else _:PM (List Nd)) _=_
       rw [if_neg n3]
       exact r1'
      ·rw [if_neg (by rw [decide_eq_false hn];decide)]
       exact r1'
   ·rw [bareNds,List.countP_cons,r3,if_neg (ao3 f7.n78 f7.n26)]
    cases dir with
    |false=>rfl
    |true=>
     show _=if k<2 then aa9 ks+1 else 0
     rw [if_neg (fun h=>hdk ⟨rfl,h⟩)]
     rfl
   ·intro n' hn'
    rcases List.mem_cons.1 hn' with rfl|hn'
    ·exact⟨f7.np,f7.sz⟩
    ·exact r5 n' hn'
end
end
section
open Go.RowKit
theorem ac3: ∀ {l:List Nd},(∀n ∈ l,noProp n=true)→noProps l=true
 | [],_=>rfl
 |n::l,h=>by
  show(noProp n && noProps l)=true
  rw [h n (.head _),ac3 (l:=l) fun x hx=>h x (.tail _ hx)]
  rfl
theorem ab6: ∀ {l:List Nd},(∀n ∈ l,ndSize n≤4)→ndSizes l≤4*l.length
 | [],_=>Nat.le_refl _
 |n::l,h=>by
  show ndSize n+ndSizes l≤_
  have h1:=h n (.head _)
  have h2:=ab6 (l:=l) fun x hx=>h x (.tail _ hx)
  rw [List.length_cons]
  omega
section
variable {s:ByteArray} {m:Bool} {i ne ar ar2:Int} {t u v:Tk} {n:Nd}
theorem ai3 {gap:List UInt8} {p:Nat} (hgap: ∀c ∈ gap,c=32∨c=10) (hd:s.data.toList.drop p=gap++ []) (hp:p≤s.size): ∃t,Sees s 2 p t∧endB 0 t=true∧t.kind=0:=by
 obtain⟨t,e1,_,_,e4⟩:=ag9 (s:=s) (gap:=gap) (a:= []) (l:= []) (kind:=0) hgap hd hp ⟨rfl,fun p=>by unfold cmKind;rw [if_neg (by decide),if_neg (by decide),if_neg (by simp [Lib.hasPrefix])]⟩ (fun _ _=>rfl)
 exact⟨t,e4 2 (.inr rfl),by unfold endB;rw [if_pos rfl,decide_eq_true e1],e1⟩
theorem ae9 (F:Nat) {l:List Nd} {q:Nat} {t:Tk} (hl:dirL s (runQ s false F) false 0 F true [] (Zs 0 Tk.zero 0 1 0 (-1))= .ok l (Zs ((q:Nat):Int) t 2 1 0 ar2)) (hn: ∀n ∈ l,noProp n=true) (hz:ndSizes l≤7000):
  ∃q',programQ s false (F+2)= .ok (.mk 86 ⟨#[]⟩ l 0 s.size) q':=by
 have hst:runQ s false (F+1) (.statements true false 0) (Zs 0 Tk.zero 0 1 0 (-1))= .ok l (Zs ((q:Nat):Int) t 2 1 0 ar2):=hl
 have hprog:runQ s false (F+2) .program (ps0 false)= .ok (.mk 86 ⟨#[]⟩ l 0 s.size) (Zs t.till t 0 1 0 ar2):=by
  show programS s false (runQ s false (F+1)) (Zs 0 Tk.zero 0 1 0 (-1))=_
  unfold programS
  rw [PM.go hst,PM.go aa8]
  rfl
 have hN:ndSize (.mk 86 ⟨#[]⟩ l 0 s.size)=1+ndSizes l:=rfl
 have hd:=deep_le (.mk 86 ⟨#[]⟩ l 0 s.size)
 refine⟨Zs t.till t 0 1 0 ar2,?_⟩
 unfold programQ readQ
 rw [PM.go hprog,if_neg (by rw [show noProp (.mk 86 ⟨#[]⟩ l 0 s.size)=noProps l from rfl,ac3 hn];decide),if_neg (by omega),if_neg (by omega)]
 rfl
theorem aj4 (F:Nat) {ks:List Nat} (hks: ∀k ∈ ks,k<8) (hl:ks.length≤20) (hd:s.data.toList=frT ks):
  ∃l q,programQ s false (F+26)= .ok (.mk 86 ⟨#[]⟩ l 0 s.size) q∧(bareNds l).countP aa6=aa9 ks:=by
 obtain⟨l,q,t,ar2,r1,_,r3,r4,r5⟩:=ae3 (s:=s) (m:=false) (ne:=0) F (e:=0) (.inl rfl) (tail:= []) (Q:=fun _ t=>t.kind=0) (fun gap p h1 h2 h3=>ai3 h1 h2 h3) (by decide) (by decide) ks [] 0 Tk.zero (-1) true [] (F+24) hks (by simp) (by rw [List.drop_zero,hd];simp) (Nat.zero_le _) (by omega)
 have hz:=ab6 (l:=l) fun n hn=>(r5 n hn).2
 obtain⟨q',h⟩:=ae9 (s:=s) (F+24) (l:=l) (q:=q) (t:=t) (ar2:=ar2) r1 (fun n hn=>(r5 n hn).1) (by omega)
 exact⟨l,q',h,r3⟩
theorem aj3 {gap rest:List UInt8} {p:Nat} (hgap: ∀c ∈ gap,c=32∨c=10) (hd:s.data.toList.drop p=gap++(32::125::rest)) (hp:p≤s.size): ∃t,Sees s 2 p t∧endB 1 t=true∧∃p',t.till=((p':Nat):Int)∧s.data.toList.drop p'=rest∧p'≤s.size∧Opn 125 t:=by
 obtain⟨p',t,h⟩:=ab3 (s:=s) (gap:=gap++ [32]) (a:= [125]) (l:=rest) (kind:=5) (p:=p) (by intro c hc;rcases List.mem_append.1 hc with h|h;exact hgap c h;exact .inl (by simpa using h)) (by rw [hd];simp) hp (ab5 (by decide) (by decide) (by decide) (by decide)) (fun _ _=>ab4 (by decide) (by decide) ((ae6 (by decide)).trans rfl) (show(1:Nat)≠0 by decide))
 exact⟨t,h.sees 2 (.inr rfl),by unfold endB;rw [if_neg (by decide),if_pos rfl];exact h.opn.yes,p',h.till,h.rest,h.le,h.opn⟩
theorem ag6 {gap l:List UInt8} {p:Nat} (hgap: ∀c ∈ gap,c=32∨c=10) (hd:s.data.toList.drop p=gap++(123::l)) (hp:p≤s.size): ∃p' t,Tat s p 5 ⟨#[123]⟩ l p' t:=
 ab3 (a:= [123]) hgap hd hp (ab5 (by decide) (by decide) (by decide) (by decide)) (fun _ _=>ab4 (by decide) (by decide) ((ae6 (by decide)).trans rfl) (show(1:Nat)≠0 by decide))
theorem am6 (F:Nat) {ks:List Nat} (hks: ∀k ∈ ks,k<8) (hl:ks.length≤20) {rest:List UInt8} {p:Nat} (hd:s.data.toList.drop p=32::(frT ks++32::125::rest)) (hp:p≤s.size) (h0:0≤ne) (h9:ne<3998) (dir:Bool) (tk:Tk) (ar:Int):
  ∃l q t ar2 p',dirL s (runQ s m (F+24)) false 1 (F+24) dir [] (Zs (p:Nat) tk 0 1 ne ar)= .ok l (Zs ((q:Nat):Int) t 2 1 ne ar2)∧(bareNds l).countP aa6=(if dir then aa9 ks else 0)∧noProps l=true∧ndSizes l≤80∧t.till=((p':Nat):Int)∧s.data.toList.drop p'=rest∧p'≤s.size∧Opn 125 t:=by
 obtain⟨l,q,t,ar2,r1,⟨p',q1,q2,q3,q4⟩,r3,r4,r5⟩:=ae3 (s:=s) (m:=m) (ne:=ne) F (e:=1) (.inr rfl) (tail:=32::125::rest) (Q:=fun _ t=> ∃p',t.till=((p':Nat):Int)∧s.data.toList.drop p'=rest∧p'≤s.size∧Opn 125 t) (fun gap p h1 h2 h3=>aj3 h1 h2 h3) h0 h9 ks [32] p tk ar dir [] (F+24) hks (by simp) hd hp (by omega)
 have hz:=ab6 (l:=l) fun n hn=>(r5 n hn).2
 exact⟨l,q,t,ar2,p',r1,r3,ac3 fun n hn=>(r5 n hn).1,by omega,q1,q2,q3,q4⟩
theorem ah4 (F:Nat) {ks:List Nat} (hks: ∀k ∈ ks,k<8) (hl:ks.length≤20) {rest:List UInt8} {p:Nat} (ht:Opn 123 t) (htl:t.till=((p:Nat):Int)) (hd:s.data.toList.drop p=32::(frT ks++32::125::rest)) (hp:p≤s.size) (h0:0≤ne) (h9:ne<3998):
  ∃l u ar2 p',runQ s m (F+27) (.statement t true) (Zs i t 2 1 ne ar)= .ok (.mk 58 ⟨#[]⟩ l t.from' u.till) (Zs ((p':Nat):Int) u 0 1 ne ar2)∧(bareNds l).countP aa6=0∧noProps l=true∧ndSizes l≤80∧s.data.toList.drop p'=rest∧p'≤s.size:=by
 obtain⟨l,q,u,ar2,p',r1,r2,r3,r4,r5,r6,r7,_⟩:=am6 (s:=s) (m:=m) (ne:=ne) F hks hl hd hp h0 h9 false t ar
 refine⟨l,u,ar2,p',?_,r2,r3,r4,r6,r7⟩
 rw [ah3 ht]
 show blockS s (runQ s m (F+25)) _=_
 unfold blockS
 have hw:=ae4 (s:=s) (x:=⟨#[123]⟩) (tk:=t) (g':=2) (i:=i) (t:=t) (fl:=1) (ne:=ne) (ar:=ar) (ad4 (by decide) (by decide) (by decide) (ht.slash (by decide))) ht.yes
 rw [htl] at hw
 have hst:runQ s m (F+25) (.statements false false 1) (Zs ((p:Nat):Int) t 0 1 ne ar)= .ok l (Zs ((q:Nat):Int) u 2 1 ne ar2):=r1
 rw [PM.go hw,PM.go hst,PM.go aa8,←r5]
 rfl
theorem ag7 (F:Nat) {p':Nat} (h2:Sees s 2 0 t) (hk:t.kind≠0) (hs:runQ s false (F+2) (.statement t true) (Zs 0 t 2 1 1 (-1))= .ok n (Zs ((p':Nat):Int) u 0 1 1 ar2)) (hn:n.kind≠57) (hd:s.data.toList.drop p'= []) (hp:p'≤s.size) (hpr:noProp n=true) (hz:ndSize n≤6000):
  ∃q,programQ s false (F+4)= .ok (.mk 86 ⟨#[]⟩ [n] 0 s.size) q:=by
 obtain⟨e,e1,e2,e3⟩:=ai3 (s:=s) (gap:= []) (by simp) (by rw [hd];rfl) hp
 have hL:dirL s (runQ s false (F+2)) false 0 (F+2) true [] (Zs 0 Tk.zero 0 1 0 (-1))= .ok [n] (Zs ((p':Nat):Int) e 2 1 0 ar2):=by
  refine ae0 (f:=F+1) (ne:=0) h2 (by unfold endB;rw [if_pos rfl];exact decide_eq_false hk) hs (by decide) (by decide) ?_
  rw [if_neg (by rw [decide_eq_false hn];decide)]
  unfold dirL
  rw [PM.go (aa4 e1),if_pos e2]
  rfl
 exact ae9 (s:=s) (F+2) (l:= [n]) hL (by simpa using hpr) (by show ndSize n+0≤7000;omega)
theorem ah6 (F:Nat) {ks:List Nat} (hks: ∀k ∈ ks,k<8) (hl:ks.length≤20) (hd:s.data.toList=123::32::(frT ks++ [32,125])):
  ∃l a b q,programQ s false (F+29)= .ok (.mk 86 ⟨#[]⟩ [.mk 58 ⟨#[]⟩ l a b] 0 s.size) q∧(bareNds l).countP aa6=0:=by
 obtain⟨p1,t,ht⟩:=ag6 (s:=s) (p:=0) gap0 (l:=32::(frT ks++ [32,125])) (by rw [List.drop_zero,hd];rfl) (Nat.zero_le _)
 obtain⟨l,u,ar2,p',r1,r2,r3,r4,r5,r6⟩:=ah4 (s:=s) (m:=false) (ne:=1) (i:=0) (ar:= -1) F hks hl ht.opn ht.till ht.rest ht.le (by decide) (by decide)
 have h5:=ht.kind
 obtain⟨q,h⟩:=ag7 (s:=s) (F+25) (ht.sees 2 (.inr rfl)) (by omega) r1 (show¬(58:Int)=57 by decide) r5 r6 (show(true && noProps l)=true by rw [r3];rfl) (by show 1+ndSizes l≤6000;omega)
 exact⟨l,_,_,q,h,r2⟩
end
end
section
open Go.RowKit
theorem ad2 {x:PM Nd} {p q:Ps} {n:Nd} (h:readQ x p= .ok n q):noProp n=true∧ndSize n≤4194304∧ndDeep n≤8000:=by
 have e:readQ x p=PM.bind x (fun n=>if noProp n=false then outP else if 4194304<ndSize n then outP else if 8000<ndDeep n then failP 1002 0 else return n) p:=rfl
 rw [e] at h
 unfold PM.bind at h
 cases hx:x p with
 |out=>rw [hx] at h;cases h
 |bad c k=>rw [hx] at h;cases h
 |ok n' p'=>
  rw [hx] at h
  simp only at h
  split at h
  ·cases h
  ·rename_i h1
   split at h
   ·cases h
   ·rename_i h2
    split at h
    ·cases h
    ·rename_i h3
     cases h
     exact⟨by simpa using h1,by omega,by omega⟩
theorem ah0: ∀ks:List Nat,(frT ks).length≤14*ks.length
 | []=>Nat.le_refl _
 |k::ks=>by
  have h1:(ae2 k).length≤13:=by unfold ae2;split<;>decide
  have h2:((if k=1 then [10] else []):List UInt8).length≤1:=by split<;>decide
  have h3:=ah0 ks
  show(ae2 k++((if k=1 then [10] else [])++frT ks)).length≤_
  rw [List.length_append,List.length_append,List.length_cons]
  omega
theorem ad6: ∀(a b:List Nat),frT (a++b)=frT a++frT b
 | [],_=>rfl
 |k::a,b=>by
  show ae2 k++((if k=1 then [10] else [])++frT (a++b))=(ae2 k++((if k=1 then [10] else [])++frT a))++frT b
  rw [ad6 a b]
  simp only [List.append_assoc]
section
variable {s:ByteArray} {m:Bool} {i ne ar ar2 g:Int} {t u v o c b tk:Tk} {n:Nd} {f:Nat}
theorem ap1:setF 1 1 6=1:=by kernel_rfl
theorem ap2 {α:Type} {x:PM α} {y:α} {i' g' ar':Int} {u':Tk} (hx:x (Zs i u g 1 ne ar)= .ok y (Zs i' u' g' 1 ne ar')):withP 1 6 x (Zs i u g 1 ne ar)= .ok y (Zs i' u' g' 1 ne ar'):=by
 have e:({ Zs i u g 1 ne ar with flags:=setF (Zs i u g 1 ne ar).flags 1 6 } :Ps)=Zs i u g 1 ne ar:=by
  show(⟨i,u,[],g,[],setF 1 1 6,ne,ar,[]⟩:Ps)=_
  rw [ap1]
  rfl
 unfold withP
 rw [e]
 unfold PM.bind
 rw [hx]
 rfl
theorem an6 {x:ByteArray} (hp:peekP s 1 (Zs i tk g 1 ne ar)= .ok t (Zs i t g 1 ne ar)) (h:nameT t x=false):wordP s x (Zs i tk g 1 ne ar)= .ok false (Zs i t g 1 ne ar):=by
 unfold wordP
 rw [PM.go hp,if_neg (by rw [h];decide)]
 rfl
theorem al2 {x:ByteArray} (hp:peekP s 1 (Zs i tk g 1 ne ar)= .ok t (Zs i t g 1 ne ar)) (h:nameT t x=true):mustP s x (Zs i tk g 1 ne ar)= .ok () (Zs t.till t 0 1 ne ar):=by
 have hw:wordP s x (Zs i tk g 1 ne ar)= .ok true (Zs t.till t 0 1 ne ar):=by
  unfold wordP
  rw [PM.go hp,if_pos h,PM.go aa8]
  rfl
 unfold mustP
 rw [PM.go hw,if_pos rfl]
 rfl
theorem aj0 (hp:peekP s 1 (Zs i tk g 1 ne ar)= .ok t (Zs i t g 1 ne ar)) (h:identB m 1 t=true):takeIdentP s m (Zs i tk g 1 ne ar)= .ok (leafN 1 t) (Zs t.till t 0 1 ne ar):=by
 unfold takeIdentP
 rw [PM.go hp,PM.go (ac1 _)]
 show(if identB m 1 t=true then _ else _:PM Nd) _=_
 rw [if_pos h,PM.go aa8]
 rfl
theorem ae7 (F:Nat) (hso:Sees s 1 i o) (ho:Opn 40 o) (hsc:Sees s 1 o.till c) (hc:Opn 41 c):runQ s m (F+2) (.formals ⟨#[]⟩) (Zs i tk 0 1 ne ar)= .ok (.mk 21 ⟨#[]⟩ [] o.from' c.till) (Zs c.till c 0 1 ne ar):=by
 show formalsQ s (F+1) ⟨#[]⟩ _=_
 unfold formalsQ
 have hl:listP s ⟨#[41]⟩ 1 (fun _:Unit=>outP) (F+1) () false (Zs o.till o 0 1 ne ar)= .ok ((),false) (Zs c.till c 0 1 ne ar):=by
  unfold listP
  rw [PM.go (aa4 hsc),if_pos hc.yes,PM.go aa8]
  rfl
 rw [if_neg (by decide),PM.go (ae4 (aa4 hso) ho.yes),PM.go hl]
 rfl
theorem ai7 (F:Nat) {ks:List Nat} (hks: ∀k ∈ ks,k<8) (hl:ks.length≤20) {rest:List UInt8} {p:Nat} (hs2:Sees s 2 i t) (ht:Opn 123 t) (htl:t.till=((p:Nat):Int)) (hd:s.data.toList.drop p=32::(frT ks++32::125::rest)) (hp:p≤s.size) (h0:0≤ne) (h9:ne<3998):
  ∃l u ar2 p',runQ s m (F+26) .function (Zs i tk 0 1 ne ar)= .ok (.mk 58 ⟨#[]⟩ l t.from' u.till) (Zs ((p':Nat):Int) u 0 1 ne ar2)∧u.till=((p':Nat):Int)∧(bareNds l).countP aa6=aa9 ks∧noProps l=true∧ndSizes l≤80∧s.data.toList.drop p'=rest∧p'≤s.size:=by
 obtain⟨l,q,u,ar2,p',r1,r2,r3,r4,r5,r6,r7,_⟩:=am6 (s:=s) (m:=m) (ne:=ne) F hks hl hd hp h0 h9 true t ar
 refine⟨l,u,ar2,p',?_,r5,r2,r3,r4,r6,r7⟩
 show functionS s (runQ s m (F+25)) _=_
 unfold functionS
 have hw:=ae4 (s:=s) (x:=⟨#[123]⟩) (tk:=t) (g':=2) (i:=i) (t:=t) (fl:=1) (ne:=ne) (ar:=ar) (ad4 (by decide) (by decide) (by decide) (ht.slash (by decide))) ht.yes
 rw [htl] at hw
 have hst:runQ s m (F+25) (.statements true false 1) (Zs ((p:Nat):Int) t 0 1 ne ar)= .ok l (Zs ((q:Nat):Int) u 2 1 ne ar2):=r1
 apply am4
 rw [PM.go (aa4 hs2),PM.go hw,PM.go hst,PM.go aa8,←r5]
 rfl
theorem ao2 {l:List UInt8} {p:Nat} (hd:s.data.toList.drop p=102::117::110::99::116::105::111::110::32::l) (hp:p≤s.size): ∃p' t,Tat s p 1 ⟨#[102,117,110,99,116,105,111,110]⟩ (32::l) p' t:=
 ab3 (a:= [102,117,110,99,116,105,111,110]) gap0 hd hp (ab5 (by decide) (by decide) (by decide) (by decide)) (fun _ _=>ac9 (a:= [117,110,99,116,105,111,110]) (by decide) (ac5 (by decide)) (fun x hx=>ak5 (by revert x;decide)) (ao0 l) (aq5 l))
theorem aq1 {l:List UInt8} {p:Nat} (hd:s.data.toList.drop p=32::102::40::l) (hp:p≤s.size): ∃p' t,Tat s p 1 ⟨#[102]⟩ (40::l) p' t:=
 ab3 (a:= [102]) gap1 hd hp (ab5 (by decide) (by decide) (by decide) (by decide)) (fun _ _=>ac9 (a:= []) (by decide) (ac5 (by decide)) (fun x hx=>by cases hx) (ai5 l (by simp)).1 (ai5 l (by simp)).2)
theorem am0 (F:Nat) {ks:List Nat} (hks: ∀k ∈ ks,k<8) (hl:ks.length≤20) {p1 p2 p3 p4 p5:Nat} {w l1 l2 l3 l4:_} {rest:List UInt8} (ht:Tat s 0 1 ⟨#[102,117,110,99,116,105,111,110]⟩ l1 p1 t) (hb:Tat s p1 1 ⟨#[102]⟩ l2 p2 b) (ho:Tat s p2 5 ⟨#[40]⟩ l3 p3 o) (hc:Tat s p3 5 ⟨#[41]⟩ l4 p4 c) (hw:Tat s p4 5 ⟨#[123]⟩ (32::(frT ks++32::125::rest)) p5 w) (h0:0≤ne) (h9:ne<3998):
  ∃l u ar2 p' x y,runQ s m (F+30) (.statement t true) (Zs i t 2 1 ne ar)= .ok (.mk 20 ⟨#[]⟩ [.mk 19 ⟨#[]⟩ [leafN 1 b,.mk 21 ⟨#[]⟩ [] o.from' c.till,.mk 58 ⟨#[]⟩ l x y] t.from' u.till] t.from' u.till) (Zs ((p':Nat):Int) u 0 1 ne ar2)∧(bareNds l).countP aa6=aa9 ks∧noProps l=true∧ndSizes l≤80∧s.data.toList.drop p'=rest∧p'≤s.size:=by
 have hs2:Sees s 2 c.till w:=hw.seen (.inr rfl) hc.till
 obtain⟨l,u,ar2,p',r1,r2,r3,r4,r5,r6,r7⟩:=ai7 (s:=s) (m:=m) (ne:=ne) (i:=c.till) (tk:=c) (ar:=ar) F hks hl hs2 hw.opn hw.till hw.rest hw.le h0 h9
 refine⟨l,u,ar2,p',w.from',u.till,?_,r3,r4,r5,r6,r7⟩
 have hk:=ht.kind
 have htx:=ht.text
 have hsl:ac7 t=false:=by unfold ac7;rw [htx];exact aa2 (by decide)
 have hf:=ae7 (s:=s) (m:=m) (i:=b.till) (tk:=b) (ne:=ne) (ar:=ar) (F+24) (ho.seen (.inl rfl) hb.till) ho.opn (hc.seen (.inl rfl) ho.till) hc.opn
 have hcall:runQ s m (F+27) (.callable ⟨#[]⟩ t.from' (leafN 1 b) ⟨#[]⟩) (Zs b.till b 0 1 ne ar)= .ok (.mk 19 ⟨#[]⟩ [leafN 1 b,.mk 21 ⟨#[]⟩ [] o.from' c.till,.mk 58 ⟨#[]⟩ l w.from' u.till] t.from' u.till) (Zs ((p':Nat):Int) u 0 1 ne ar2):=by
  show callableQ (runQ s m (F+26)) ⟨#[]⟩ t.from' (leafN 1 b) ⟨#[]⟩ _=_
  unfold callableQ
  rw [if_neg (by rintro(h|h);exact h rfl;exact h rfl),if_neg (by decide),if_pos rfl]
  apply ap2
  rw [PM.go hf,PM.go r1,r2]
  rfl
 have hfun:runQ s m (F+28) (.funcs true) (Zs i t 2 1 ne ar)= .ok (.mk 19 ⟨#[]⟩ [leafN 1 b,.mk 21 ⟨#[]⟩ [] o.from' c.till,.mk 58 ⟨#[]⟩ l w.from' u.till] t.from' u.till) (Zs ((p':Nat):Int) u 0 1 ne ar2):=by
  show funcsQ s m (runQ s m (F+27)) true _=_
  unfold funcsQ
  have hpk:=ad4 (s:=s) (i:=i) (t:=t) (g:=1) (g':=2) (fl:=1) (ne:=ne) (ar:=ar) (by decide) (by decide) (by decide) hsl
  have hbn:punctT b ⟨#[42]⟩=false:=aa0 (by rw [hb.kind];decide)
  have hid:identB m 1 b=true:=by
   unfold identB
   rw [decide_eq_true hb.kind,hb.text]
   cases m<;>kernel_rfl
  rw [if_neg (by decide),PM.go (ac1 _),PM.go (an6 hpk (ac0 (by rw [htx];decide))),if_neg (by decide),PM.go (al2 hpk (by unfold nameT;rw [decide_eq_true hk,decide_eq_true htx];rfl)),PM.go (ao4 (aa4 (hb.seen (.inl rfl) ht.till)) hbn),if_neg (by decide),PM.go (aj0 (aa1 (by decide)) hid)]
  exact hcall
 have hdec:runQ s m (F+29) (.declaration true) (Zs i t 2 1 ne ar)= .ok (.mk 20 ⟨#[]⟩ [.mk 19 ⟨#[]⟩ [leafN 1 b,.mk 21 ⟨#[]⟩ [] o.from' c.till,.mk 58 ⟨#[]⟩ l w.from' u.till] t.from' u.till] t.from' u.till) (Zs ((p':Nat):Int) u 0 1 ne ar2):=by
  show declarationQ (runQ s m (F+28)) true _=_
  unfold declarationQ
  rw [PM.go (ac1 _),if_neg (by rw [show nameT (Zs i t 2 1 ne ar).tok ⟨#[99,108,97,115,115]⟩=false from ac0 (by rw [show (Zs i t 2 1 ne ar).tok=t from rfl,htx];decide)];decide),PM.go hfun,r2]
  rfl
 show statementQ s m (runQ s m (F+29)) t true _=_
 unfold statementQ
 rw [if_neg (by rintro(h|h);cases h;exact h hk),if_pos htx]
 exact hdec
theorem al0 (F:Nat) {ks:List Nat} (hks: ∀k ∈ ks,k<8) (hl:ks.length≤20) (hd:s.data.toList= [102,117,110,99,116,105,111,110,32,102,40,41,32,123,32]++(frT ks++ [32,125])):
  ∃l a1 a2 a3 x y x2 y2 x3 y3 q,programQ s false (F+32)= .ok (.mk 86 ⟨#[]⟩ [.mk 20 ⟨#[]⟩ [.mk 19 ⟨#[]⟩ [leafN 1 a1,.mk 21 ⟨#[]⟩ [] a2 a3,.mk 58 ⟨#[]⟩ l x y] x2 y2] x3 y3] 0 s.size) q∧(bareNds l).countP aa6=aa9 ks:=by
 obtain⟨p1,t,ht⟩:=ao2 (s:=s) (p:=0) (l:=102::40::41::32::123::32::(frT ks++ [32,125])) (by rw [List.drop_zero,hd];rfl) (Nat.zero_le _)
 obtain⟨p2,b,hb⟩:=aq1 ht.rest ht.le
 obtain⟨p3,o,ho⟩:=aa5 (c:=40) (by simp) gap0 (l:=41::32::123::32::(frT ks++ [32,125])) hb.rest hb.le
 obtain⟨p4,c,hc⟩:=aa5 (c:=41) (by simp) gap0 (l:=32::123::32::(frT ks++ [32,125])) ho.rest ho.le
 obtain⟨p5,w,hw⟩:=ag6 gap1 (l:=32::(frT ks++ [32,125])) hc.rest hc.le
 obtain⟨l,u,ar2,p',x,y,r1,r2,r3,r4,r5,r6⟩:=am0 (s:=s) (m:=false) (ne:=1) (i:=0) (ar:= -1) F hks hl (rest:= []) ht hb ho hc hw (by decide) (by decide)
 have h5:=ht.kind
 obtain⟨q,h⟩:=ag7 (s:=s) (F+28) (ht.sees 2 (.inr rfl)) (by omega) r1 (show¬(20:Int)=57 by decide) r5 r6 (by simp [noProp,noProps,leafN,r3]) (by simp only [ndSize,ndSizes,leafN];omega)
 exact⟨l,_,_,_,_,_,_,_,_,_,q,h,r2⟩
theorem ak7 (F:Nat) {s1 s2 s3:ByteArray} {ks:List Nat} (hks: ∀k ∈ ks,k<8) (hl:ks.length≤20) (h1:s1.data.toList=frT ks) (h2:s2.data.toList= [102,117,110,99,116,105,111,110,32,102,40,41,32,123,32]++(frT ks++ [32,125])) (h3:s3.data.toList=123::32::(frT ks++ [32,125])):
  (∃n q,programQ s1 false (F+26)= .ok n q∧ndSize n≤4194304∧ndDeep n≤8000∧(bareNd n).kids.countP aa6=aa9 ks)∧
  (∃n q,programQ s2 false (F+32)= .ok n q∧ndSize n≤4194304∧ndDeep n≤8000∧∃(a b:ByteArray) (c d:Nd) (e:ByteArray) (f g h i j o:Int) (l:List Nd),(bareNd n).kids= [.mk 20 a [.mk 19 b [c,d,.mk 58 e l f g] h i] j o]∧l.countP aa6=aa9 ks)∧
  (∃n q,programQ s3 false (F+29)= .ok n q∧ndSize n≤4194304∧ndDeep n≤8000∧∃(a:ByteArray) (b c:Int) (l:List Nd),(bareNd n).kids= [.mk 58 a l b c]∧l.countP aa6=0):=by
 refine⟨?_,?_,?_⟩
 ·obtain⟨l,q,r1,r2⟩:=aj4 F hks hl h1
  obtain⟨_,z1,z2⟩:=ad2 r1
  refine⟨_,q,r1,z1,z2,?_⟩
  rw [bareNd,if_neg (by decide)]
  exact r2
 ·obtain⟨l,a1,a2,a3,x,y,x2,y2,x3,y3,q,r1,r2⟩:=al0 F hks hl h2
  obtain⟨_,z1,z2⟩:=ad2 r1
  refine⟨_,q,r1,z1,z2,⟨#[]⟩,⟨#[]⟩,bareNd (leafN 1 a1),bareNd (.mk 21 ⟨#[]⟩ [] a2 a3),⟨#[]⟩,0,0,0,0,0,0,bareNds l,?_,r2⟩
  rw [bareNd,if_neg (by decide)]
  show bareNds _=_
  have e58:bareNd (.mk 58 ⟨#[]⟩ l x y)= .mk 58 ⟨#[]⟩ (bareNds l) 0 0:=by rw [bareNd,if_neg (by decide)]
  have e19:bareNd (.mk 19 ⟨#[]⟩ [leafN 1 a1,.mk 21 ⟨#[]⟩ [] a2 a3,.mk 58 ⟨#[]⟩ l x y] x2 y2)= .mk 19 ⟨#[]⟩ [bareNd (leafN 1 a1),bareNd (.mk 21 ⟨#[]⟩ [] a2 a3),.mk 58 ⟨#[]⟩ (bareNds l) 0 0] 0 0:=by
   rw [bareNd,if_neg (by decide),bareNds,bareNds,bareNds,bareNds,e58]
  have e20:bareNd (.mk 20 ⟨#[]⟩ [.mk 19 ⟨#[]⟩ [leafN 1 a1,.mk 21 ⟨#[]⟩ [] a2 a3,.mk 58 ⟨#[]⟩ l x y] x2 y2] x3 y3)= .mk 20 ⟨#[]⟩ [.mk 19 ⟨#[]⟩ [bareNd (leafN 1 a1),bareNd (.mk 21 ⟨#[]⟩ [] a2 a3),.mk 58 ⟨#[]⟩ (bareNds l) 0 0] 0 0] 0 0:=by
   rw [bareNd,if_neg (by decide),bareNds,bareNds,e19]
  rw [bareNds,bareNds,e20]
 ·obtain⟨l,a,b,q,r1,r2⟩:=ah6 F hks hl h3
  obtain⟨_,z1,z2⟩:=ad2 r1
  refine⟨_,q,r1,z1,z2,⟨#[]⟩,0,0,bareNds l,?_,r2⟩
  rw [bareNd,if_neg (by decide)]
  show bareNds _=_
  rw [bareNds,bareNds,bareNd,if_neg (by decide)]
end
end
section
open Go.RowKit
theorem NdW.low {w:World} {L L' B:Nat} {n:Nd} {v:Value} (h:NdW w L B n v) (hL:L'≤L):NdW w L' B n v:=by
 obtain⟨b,cap,h1,h2⟩:=h
 exact⟨b,cap,h1,RowE.keeps.k hL (Nat.le_refl _) (fun _ _ _=>rfl) h2⟩
theorem NdV.low {w:World} {L L' B B':Nat} {n:Nd} {v:Value} (h:NdV w L B n v) (hL:L'≤L) (hB:B≤B'):NdV w L' B' n v:=by
 obtain⟨b,cap,h1,h2,h3⟩:=h
 exact⟨b,cap,h1,h2,RowP_keep hL hB (fun _ _ _=>rfl) h3⟩
theorem NdV.kd {w:World} {L B:Nat} {n:Nd} {v:Value} (h:NdV w L B n v): ∃b cap,v= .agg #[.int .i64 n.kind,.string n.text,.slice b n.kids.length cap,.int .i64 n.from',.int .i64 n.till]∧n.kids.length≤cap∧RowP w L B n.kids b 0:=h
theorem am1 (w:World) (L B:Nat) (a:Option Addr) (i:Nat):RowP w L B [] a i:=by rw [RowP];trivial
def RowA (w:World) (r B:Nat) (ks:List Nd) (a:Option Addr):Prop:= ∀w':World,(∀k,k<B→k≠r→w'.heap[k]? =w.heap[k]?)→RowP w' 0 B ks a 0
theorem RowA.row {w:World} {r B:Nat} {ks:List Nd} {a:Option Addr} (h:RowA w r B ks a):RowP w 0 B ks a 0:=h w fun _ _ _=>rfl
theorem RowA.bel {w w':World} {r B B':Nat} {ks:List Nd} {a:Option Addr} (h:RowA w r B ks a) (hb: ∀k,k<B→k≠r→w'.heap[k]? =w.heap[k]?) (hB:B≤B'):RowA w' r B' ks a:=
 fun w2 h2=>RowP_keep (Nat.le_refl _) hB (fun _ _ _=>rfl) (h w2 fun k hk hne=>(h2 k (by omega) hne).trans (hb k hk hne))
theorem RowA.nil (w:World) (r B:Nat) (a:Option Addr):RowA w r B [] a:=fun _ _=>am1 _ _ _ _ _
theorem RowA.of {w:World} {r L B:Nat} {ks:List Nd} {a:Option Addr} (h:RowP w L B ks a 0) (hL:r<L):RowA w r B ks a:=
 fun w2 h2=>RowP_keep (Nat.zero_le _) (Nat.le_refl _) (fun k h1 hk=>h2 k hk (by omega)) h
theorem RowA.new {w W:World} {r:Nat} {T:TypeId} (ns:List Kd) (hn: ∀x ∈ ns,x.1.kids.length≤x.2.2∧RowA w r w.heap.size x.1.kids x.2.1) (hr:r≠w.heap.size)
  (hg:W.heap[w.heap.size]? =some (.cells (ns.flatMap cells5).toArray T (0,0))) (hk: ∀k,k<w.heap.size→k≠r→W.heap[k]? =w.heap[k]?):RowA W r (w.heap.size+1) (ns.map (·.1)) (some ⟨w.heap.size,0,none⟩):=by
 intro w' hw'
 have hg':w'.heap[w.heap.size]? =some (.cells (ns.flatMap cells5).toArray T (0,0)):=(hw' _ (Nat.lt_succ_self _) (Ne.symm hr)).trans hg
 refine RowP_of fun j hj=>⟨w.heap.size,0,rfl,?_⟩
 have hj':j<ns.length:=by simpa using hj
 have hcell: ∀i,i<5→w'.cell? ⟨w.heap.size,j*5+i,none⟩=(cells5 ns[j])[i]? :=fun i hi=>by
  rw [cell_of_row _ _ _ _ T (0,0) hg',List.getElem?_toArray]
  exact cells5_get ns j i hj' hi
 obtain⟨h1,h2⟩:=hn _ (List.getElem_mem hj')
 rw [List.getElem_map,NdC_eq,Nat.zero_add,Nat.zero_add]
 exact⟨ns[j].2.1,ns[j].2.2,Nat.zero_le _,Nat.lt_succ_self _,hcell 0 (by decide),hcell 1 (by decide),hcell 2 (by decide),hcell 3 (by decide),hcell 4 (by decide),h1,
  RowP_keep (Nat.le_refl _) (Nat.le_succ _) (fun _ _ _=>rfl) (h2 w' fun k hlt hne=>(hw' k (by omega) hne).trans (hk k hlt hne))⟩
structure WBox (w:World) (r:Nat) (n:Nd) (b:Option Addr) (cap:Nat):Prop where
 box:NdBoxV w r n.kind n.text (.slice b n.kids.length cap) n.from' n.till
 cap:n.kids.length≤cap
 row:RowA w r w.heap.size n.kids b
theorem WBox.bel {w w':World} {r:Nat} {n:Nd} {b:Option Addr} {cap:Nat} (h:WBox w r n b cap) (hb:Below w.heap.size w w'):WBox w' r n b cap:=
 ⟨h.box.bel hb,h.cap,h.row.bel (fun k hk _=>hb.block k hk) hb.size⟩
theorem WBox.v {w:World} {r:Nat} {n:Nd} {b:Option Addr} {cap:Nat} (h:WBox w r n b cap):NdV w 0 w.heap.size n (.agg #[.int .i64 n.kind,.string n.text,.slice b n.kids.length cap,.int .i64 n.from',.int .i64 n.till]):=⟨b,cap,rfl,h.cap,h.row.row⟩
theorem WBox.put {w W:World} {r:Nat} {ns:List Kd} {T:TypeId} (hr:r<w.heap.size) (hn: ∀x ∈ ns,x.1.kids.length≤x.2.2∧RowA w r w.heap.size x.1.kids x.2.1) {k:Int} {t:ByteArray} {m:Nat} (hm:ns.length=m)
  (hbx:NdBoxV W r k t (.slice (some ⟨w.heap.size,0,none⟩) m m) 0 0) (hg:W.heap[w.heap.size]? =some (.cells (ns.flatMap cells5).toArray T (0,0))) (hk: ∀i,i<w.heap.size→i≠r→W.heap[i]? =w.heap[i]?) (hs:W.heap.size=w.heap.size+1):
  WBox W r (.mk k t (ns.map (·.1)) 0 0) (some ⟨w.heap.size,0,none⟩) m:=by
 subst hm
 refine⟨?_,?_,?_⟩
 ·show NdBoxV _ r k t (.slice _ (ns.map (·.1)).length _) 0 0
  rw [List.length_map]
  exact hbx
 ·show(ns.map (·.1)).length≤_
  rw [List.length_map]
  exact Nat.le_refl _
 ·rw [hs]
  exact RowA.new ns hn (by omega) hg hk
structure WSt (w0:World) (r:Nat) (n:Nd) (W:World):Prop where
 ex: ∃b cap,WBox W r n b cap
 bel:Below w0.heap.size w0 W
 lo:w0.heap.size≤r
theorem WSt.next {w0 W W':World} {r:Nat} {n:Nd} (h:WSt w0 r n W) (hb:Below W.heap.size W W'):WSt w0 r n W':=by
 obtain⟨b,cap,hx⟩:=h.ex
 exact⟨⟨b,cap,hx.bel hb⟩,bel_next h.bel hb,h.lo⟩
theorem WSt.leaf {w0 w:World} (hb:Below w0.heap.size w0 w) (t:ByteArray):WSt w0 w.heap.size (.mk 1 t [] 0 0) (w.alloc (.cells #[.int .i64 1,.string t,.slice none 0 0,.int .i64 0,.int .i64 0] 31)):=
 ⟨⟨none,0,heap_alloc_new _ _,Nat.le_refl _,RowA.nil _ _ _ _⟩,hb.alloc hb.size _,hb.size⟩
theorem aj8 {S:ByteArray} {l:List UInt8} (h:S.data.toList=l):S.size=l.length:=by
 rw [←h]
 exact Array.length_toList.symm
theorem ai8 (m:Nd):ndSize (bareNd m)≤ndSize m:=by
 induction m using Nd.ind with
 |h m ih=>
  rw [bareNd_eq]
  split
  ·cases hk:m.kids with
   |nil=>rw [bareFst,Nd.zero,ndSize,ndSizes,ndSize_eq];omega
   |cons k ks=>
    rw [bareFst]
    have h1:=ih k (by rw [hk];exact .head _)
    have h2:=ndSizes_mem (show k ∈ m.kids by rw [hk];exact .head _)
    rw [ndSize_eq m]
    omega
  ·rw [ndSize,ndSize_eq m]
   have key: ∀l:List Nd,(∀x ∈ l,ndSize (bareNd x)≤ndSize x)→ndSizes (l.map bareNd)≤ndSizes l:=by
    intro l
    induction l with
    |nil=>intro _;exact Nat.le_refl _
    |cons x l ihl=>
     intro h
     rw [List.map_cons,ndSizes,ndSizes]
     have h1:=h x (.head _)
     have h2:=ihl fun y hy=>h y (.tail _ hy)
     omega
   have:=key m.kids ih
   omega
def ak2 (w:World) (ao:Option Addr) (len:Nat):Prop:= ∀j,j<len→∃b off,ao=some ⟨b,off,none⟩∧b<w.heap.size∧∃z:Int,w.cell? ⟨b,off+j,none⟩=some (.int .i64 z)
theorem aq3 (i:Int) (n:Nat) (hn:0<n): ∃a:Nat,(IntKind.u64.wrap i).tmod n=(a:Int)∧a<n:=by
 have e:IntKind.u64.wrap i=i % 18446744073709551616:=rfl
 have h1:0≤(IntKind.u64.wrap i).tmod n:=by rw [e,Int.tmod_eq_emod_of_nonneg (by omega)];exact Int.emod_nonneg _ (by omega)
 have h2:(IntKind.u64.wrap i).tmod n<n:=by rw [e,Int.tmod_eq_emod_of_nonneg (by omega)];exact Int.emod_lt_of_pos _ (by omega)
 exact⟨((IntKind.u64.wrap i).tmod n).toNat,by omega,by omega⟩
def StrS (g:Nat) (l:List (List UInt8)) (W:World):Prop:=g<W.heap.size∧∀a,(h:a<l.length)→W.cell? ⟨g,a,none⟩=some (.string ⟨l[a].toArray⟩)
theorem StrS.new (w:World) (l:List (List UInt8)) (T:TypeId):StrS w.heap.size l (w.alloc (.cells (l.map fun o=>Value.string ⟨o.toArray⟩).toArray T)):=by
 refine⟨by rw [World.size_alloc];exact Nat.lt_succ_self _,fun a h=> ?_⟩
 rw [cell_of_row _ _ _ _ T (0,0) (heap_alloc_new _ _),List.getElem?_toArray,List.getElem?_map,List.getElem?_eq_getElem h]
 rfl
theorem StrS.bel {g:Nat} {l:List (List UInt8)} {w w':World} (h:StrS g l w) (hb:Below w.heap.size w w'):StrS g l w':=
 ⟨Nat.lt_of_lt_of_le h.1 hb.size,fun a ha=>(World.cell?_of_block (hb.block g h.1)).trans (h.2 a ha)⟩
theorem StrS.lay {g r:Nat} {l:List (List UInt8)} {w:World} (h:StrS g l w) (hr:g≠r) (k:Int) (t:ByteArray) (v:Value) (f u:Int):StrS g l (lay5 w r k t v f u):=
 ⟨by rw [lay5_size];exact h.1,fun a ha=>(World.cell?_of_block (lay5_block _ _ _ _ _ _ _ _ hr)).trans (h.2 a ha)⟩
theorem an7 (v0 v1 v2 v3 v4:Value) (W:World):(Instr.field 31 (.agg #[v0,v1,v2,v3,v4]) 2).run Tryz.prog W= .ok v2 W:=by kernel_rfl
attribute [local go_sem] an7
theorem ad0 {n:Nd} (h:ndDeep n≤8000):bareT n=bareNd n:=by
 unfold bareT
 rw [if_pos h]
theorem ab1 {s:ByteArray} {n:Nd} {q:Ps} (F:Nat) (hF:F≤1073741824) (hs:s.size≤1048576) (hE:programQ s false F= .ok n q) (hz:ndSize n≤4194304) (w:World) (hx:Lx w):
  Calls Tryz.prog 8 #[.string s] w fun e w'=> ∃b cap,e= .returned (.tuple #[.slice b (bareT n).kids.length cap,.bool true])∧(bareT n).kids.length≤cap∧RowP w' w.heap.size w'.heap.size (bareT n).kids b 0∧Below w.heap.size w w':=by
 have HE:=Lib.hid hE
 have HX:=Lib.hid hx
 clear hE hx
 go_enter Tryz.func8,Tryz.ntmps8
 go_wp2_with fail
 refine(Program_tieT false F hs hF w HX.out HE.out (by intro h;cases h)).mono ?_
 rintro e w2 ⟨⟨a,cap,sa,sc,rfl,hcap,hrow⟩,hb1⟩
 have hsz2:w.heap.size≤w2.heap.size:=hb1.size
 have hbx:NdBoxV (w2.alloc (.cells #[.int .i64 n.kind,.string n.text,.slice a n.kids.length cap,.int .i64 n.from',.int .i64 n.till] 31)) w2.heap.size n.kind n.text (.slice a n.kids.length cap) n.from' n.till:=box_new w2 n a cap
 have hal:=alloc_bel w2 (.cells #[.int .i64 n.kind,.string n.text,.slice a n.kids.length cap,.int .i64 n.from',.int .i64 n.till] 31)
 have hb3:=bel_next hb1 hal
 have HV:=Lib.hid (show NdV (w2.alloc (.cells #[.int .i64 n.kind,.string n.text,.slice a n.kids.length cap,.int .i64 n.from',.int .i64 n.till] 31)) 0 w2.heap.size n (.agg #[.int .i64 n.kind,.string n.text,.slice a n.kids.length cap,.int .i64 n.from',.int .i64 n.till]) from⟨a,cap,rfl,hcap,RowP_bel hrow hal⟩)
 have hsz:=hal.size
 go_upto_region 2 with fail
 generalize World.alloc w2 _=w3 at*
 have HB3:=Lib.hid hb3
 obtain⟨x0,x1,x2,x3,x4,y0,y1,y2,y3,y4⟩:=NdBoxV.facts hbx
 clear hb1 hb3 hal hrow HE HX hcap
 go_wp2_with (first|(go_at_call 15;refine(num_any _ _).mono ?_;rintro e w9 ⟨rfl,rfl⟩)|(go_at_call 16;refine(Bare_any n _ w3 0 w2.heap.size HV.out hsz hz).mono ?_;rintro e w4 ⟨u,rfl,hu,hb4⟩;have HB4:=Lib.hid (bel_next HB3.out hb4);have HR:=Lib.hid hu.v;obtain⟨b4,cap4,rfl,hc4,hr4⟩:=hu.v;replace HR:=Lib.hid hr4;have HC:=Lib.hid hc4;clear hu hb4 hr4 hc4 x0 x1 x2 x3 x4 y0 y1 y2 y3 y4;unfold ndCells at*))
 refine bodyPost_ret (results_tmp2 rfl _ _ _) rfl ?_
 exact⟨b4,cap4,rfl,HC.out,RowP_keep (show w.heap.size≤w3.heap.size by omega) (Nat.le_refl _) (fun _ _ _=>rfl) HR.out,HB4.out⟩
end
section
open Go.RowKit
theorem af7 {ks:List Nd} {j:Nat} (h:j<ks.length):(ks.take (j+1)).countP aa6=(ks.take j).countP aa6+if aa6 ks[j]=true then 1 else 0:=by
 rw [List.take_add_one,List.getElem?_eq_getElem h,List.countP_append]
 show _+List.countP aa6 [ks[j]]=_
 rw [List.countP_cons,List.countP_nil,Nat.zero_add]
theorem ab0 (ks:List Nd) (b:Option Addr) (cap:Nat) (w:World) (L B:Nat) (hr:RowP w L B ks b 0) (hz:ks.length≤4194304):
  Calls Tryz.prog 9 #[.slice b ks.length cap] w fun e w'=>e= .returned (.int .i64 (ks.countP aa6:Nat))∧w'=w:=by
 have HR:=Lib.hid hr
 clear hr
 go_enter Tryz.func9,Tryz.ntmps9
 go_wp2_with fail
 go_loopw [3,4] (fun k i wr=> ∃j:Nat,j≤ks.length∧i= .int .i64 j∧k= .int .i64 ((ks.take j).countP aa6:Nat)∧wr=w) (fun _ i _=>ks.length - (intOf i).toNat)
 case atStart=>exact⟨0,Nat.zero_le _,rfl,rfl,rfl⟩
 case round=>
  obtain⟨j,hj,rfl,rfl,rfl⟩:=hrel
  by_cases hlt:j<ks.length
  ·obtain⟨g,off,rfl,hc⟩:=RowP_get HR.out j hlt
   rw [NdC_eq] at hc
   obtain⟨b0,cap0,hg1,hg2,c0,_⟩:=hc
   rw [Nat.zero_add] at c0
   obtain⟨kk,hkk⟩: ∃kk,ks[j].kind=kk:=⟨_,rfl⟩
   rw [hkk] at c0
   have hct:(ks.take j).countP aa6≤4194304:=Nat.le_trans List.countP_le_length (by rw [List.length_take];omega)
   have HCT:=Lib.hid (af7 hlt)
   have HD:Hid (aa6 ks[j]=decide (kk=78)):=Lib.hid (by unfold aa6;rw [hkk])
   generalize (ks.take j).countP aa6=ct at*
   have hlt':(j:Int)<(ks.length:Int):=by omega
   have hj0:(0:Int)≤(j:Int):=by omega
   clear hkk
   by_cases hk:kk=78
   ·have hk1:=kt hk
    have HCE:Hid ((ks.take (j+1)).countP aa6=ct+1):=Lib.hid (by rw [HCT.out,HD.out,decide_eq_true hk];rfl)
    clear hk HCT HD
    go_wp2_with fail
    go_roundw
    case rel=>exact⟨j+1,hlt,by go_num,by rw [HCE.out];go_num,trivial⟩
    case measure=>simp [intOf];omega
   ·have hk1:=kf hk
    have HCE:Hid ((ks.take (j+1)).countP aa6=ct):=Lib.hid (by rw [HCT.out,HD.out,decide_eq_false hk];rfl)
    clear hk HCT HD
    go_wp2_with fail
    go_roundw
    case rel=>exact⟨j+1,hlt,by go_num,by rw [HCE.out],trivial⟩
    case measure=>simp [intOf];omega
  ·obtain rfl:j=ks.length:=by omega
   have HE:Hid ((ks.take ks.length).countP aa6=ks.countP aa6):=Lib.hid (by rw [List.take_length])
   generalize (ks.take ks.length).countP aa6=c9 at*
   go_wp2_with fail
   go_ret
   refine⟨?_,?_⟩
   ·rw [←HE.out]
    rfl
   ·first|rfl|trivial
def af5:List (List UInt8):=(List.range 8).map fun k=>frT [k]
theorem ak1: ∀o ∈ af5,o.length≤14:=by decide
theorem am2 {a:Nat} (h:a<af5.length):af5[a]=frT [a]:=by simp [af5]
def endD (ks:List Nat):Bool:=ks.any fun k=>decide (2≤k)
theorem ad3 (ks:List Nat) (k:Nat):endD (ks++ [k])=(endD ks||decide (2≤k)):=by
 unfold endD
 rw [List.any_append,List.any_cons,List.any_nil,Bool.or_false]
theorem ae8: ∀(ks:List Nat) (k:Nat),aa9 (ks++ [k])=if endD (ks++ [k])=true then aa9 ks else aa9 ks+1
 | [],k=>by
  rw [ad3]
  show(if k<2 then aa9 []+1 else 0)=if (false||decide (2≤k))=true then 0 else 0+1
  rw [Bool.false_or]
  by_cases h:k<2
  ·rw [if_pos h,if_neg (by simp;omega)]
   rfl
  ·rw [if_neg h,if_pos (by simp;omega)]
 |x::ks,k=>by
  have e1:endD (x::ks++ [k])=(decide (2≤x)||endD (ks++ [k])):=by unfold endD;rw [List.cons_append,List.any_cons]
  show(if x<2 then aa9 (ks++ [k])+1 else 0)=if endD (x::ks++ [k])=true then (if x<2 then aa9 ks+1 else 0) else (if x<2 then aa9 ks+1 else 0)+1
  rw [e1,ae8 ks k]
  by_cases h:x<2
  ·rw [decide_eq_false (show¬2≤x by omega),Bool.false_or,if_pos h,if_pos h]
   split<;>rfl
  ·rw [decide_eq_true (show 2≤x by omega),Bool.true_or,if_neg h,if_neg h,if_pos rfl]
theorem ah9: ∀ks:List Nat,aa9 ks≤ks.length
 | []=>Nat.le_refl _
 |k::ks=>by
  have:=ah9 ks
  rw [aa9,List.length_cons]
  split<;>omega
theorem al4 {w:World} {L B:Nat} {a b e:ByteArray} {c d:Nd} {l:List Nd} {f g h i j o:Int} {p:Option Addr} (hr:RowP w L B [.mk 20 a [.mk 19 b [c,d,.mk 58 e l f g] h i] j o] p 0):
  ∃g0 o0 g1 o1 c1 g2 o2 c2 p3 c3,p=some ⟨g0,o0,none⟩∧w.cell? ⟨g0,o0+2,none⟩=some (.slice (some ⟨g1,o1,none⟩) 1 c1)∧w.cell? ⟨g1,o1+2,none⟩=some (.slice (some ⟨g2,o2,none⟩) 3 c2)∧w.cell? ⟨g2,o2+2*5+2,none⟩=some (.slice p3 l.length c3)∧RowP w L B l p3 0:=by
 obtain⟨g0,o0,rfl,h0⟩:=RowP_get hr 0 (by simp)
 rw [NdC_eq] at h0
 obtain⟨p1,c1,_,_,_,_,e2,_,_,_,h1⟩:=h0
 obtain⟨g1,o1,rfl,k1⟩:=RowP_get h1 0 (by simp [Nd.kids])
 rw [NdC_eq] at k1
 obtain⟨p2,c2,_,_,_,_,e3,_,_,_,h2⟩:=k1
 obtain⟨g2,o2,rfl,k2⟩:=RowP_get h2 2 (by simp [Nd.kids])
 rw [NdC_eq] at k2
 obtain⟨p3,c3,_,_,_,_,e4,_,_,_,h3⟩:=k2
 exact⟨g0,o0,g1,o1,c1,g2,o2,c2,p3,c3,rfl,e2,e3,e4,h3⟩
theorem an8 {w:World} {L B:Nat} {a:ByteArray} {l:List Nd} {k b c:Int} {p:Option Addr} (hr:RowP w L B [.mk k a l b c] p 0):
  ∃g0 o0 p3 c3,p=some ⟨g0,o0,none⟩∧w.cell? ⟨g0,o0+2,none⟩=some (.slice p3 l.length c3)∧RowP w L B l p3 0:=by
 obtain⟨g0,o0,rfl,h0⟩:=RowP_get hr 0 (by simp)
 rw [NdC_eq] at h0
 obtain⟨p1,c1,_,_,_,_,e2,_,_,_,h1⟩:=h0
 exact⟨g0,o0,p1,c1,rfl,e2,h1⟩
theorem ae1 {n:Nd} {l:List Nd} (hz:ndSize n≤4194304) (hs:ndSizes l≤ndSize (bareNd n)):l.length≤4194304:=by
 have h1:=ai8 n
 have h2:l.length≤ndSizes l:=by
  clear hz hs h1
  induction l with
  |nil=>exact Nat.zero_le _
  |cons x l ih=>
   show l.length+1≤ndSize x+ndSizes l
   have:1≤ndSize x:=by cases x;rw [ndSize];omega
   omega
 omega
def ap7 (w:World) (len:Nat) (sv mv ev i:Value) (wr:World):Prop:=
 ∃(j:Nat) (ks:List Nat) (S:ByteArray) (m:Nat) (eb:Bool),j≤len∧j≤20∧i= .int .i64 j∧ks.length=j∧(∀k ∈ ks,k<8)∧sv= .string S∧S.data.toList=frT ks∧mv= .int .i64 (m:Nat)∧aa9 ks=m∧ev= .bool eb∧endD ks=eb∧Below w.heap.size w wr
theorem af6 {w wr w2:World} {len j:Nat} {ks:List Nat} {S X:ByteArray} {a m m':Nat} {eb eb':Bool} (hlt:j<len) (hlt20:j<20) (hoj:ks.length=j) (hm: ∀k ∈ ks,k<8) (ha:a<8) (hS:S.data.toList=frT ks) (hX:X.data.toList=S.data.toList++frT [a]) (hl:aa9 ks=m) (he:endD ks=eb) (he':eb'=(eb||decide (2≤a))) (hm':m'=if eb'=true then m else m+1) (hb:Below w.heap.size w wr) (hb2:Below wr.heap.size wr w2):
  ap7 w len (.string X) (.int .i64 (m':Nat)) (.bool eb') (.int .i64 ((j+1:Nat):Int)) w2:=by
 refine⟨j+1,ks++ [a],X,m',eb',hlt,by omega,rfl,by simp [hoj],?_,rfl,?_,rfl,?_,rfl,?_,bel_next hb hb2⟩
 ·intro x hx
  rcases List.mem_append.1 hx with hx|hx
  ·exact hm x hx
  ·rw [List.mem_singleton.1 hx];exact ha
 ·rw [hX,hS,ad6]
 ·rw [ae8,ad3,he,←he',hl,hm']
 ·rw [ad3,he,he']
theorem ak4 (ao:Option Addr) (len cap:Nat) (w:World) (hc:ak2 w ao len) (hl:len≤33554432) (hx:Lx w):
  Calls Tryz.prog 3 #[.slice ao len cap] w fun e w'=>e= .returned (.bool true)∧Below w.heap.size w w':=by
 have HC:=Lib.hid hc
 have HX:=Lib.hid hx
 clear hc hx
 go_enter Tryz.func3,Tryz.ntmps3
 go_wp2_with fail
 refine(awake_any w HX.out).mono ?_
 rintro e w1 ⟨rfl,hb1⟩
 have HB:=Lib.hid hb1
 clear hb1
 go_wp2_with fail
 go_loopw [3,4,5,6,7] (fun sv mv ev i _ wr=>ap7 w1 len sv mv ev i wr) (fun _ _ _ i _ _=>20 - (intOf i).toNat)
 case atStart=>exact⟨0,[],⟨#[]⟩,0,false,Nat.zero_le _,Nat.zero_le _,rfl,rfl,(fun _ h=>by cases h),rfl,rfl,rfl,rfl,rfl,rfl,Below.refl _ _⟩
 case round=>
  obtain⟨j,ks,S,m,eb,hj,hj20,rfl,hoj,hm,rfl,hS,rfl,hld,rfl,heb,hbr⟩:=hrel
  have hSs:S.size≤280:=by rw [aj8 hS];have:=ah0 ks;omega
  have hms:m≤20:=by have:=ah9 ks;omega
  have HS:=Lib.hid hS
  have HM:=Lib.hid hm
  have HL:=Lib.hid hld
  have HEB:=Lib.hid heb
  have HBR:=Lib.hid hbr
  have hwz:=hbr.size
  clear hS hm hld heb hbr
  by_cases hlt:j<len∧j<20
  ·obtain⟨hlt,hlt20⟩:=hlt
   obtain⟨b,off,rfl,hb,z,hz⟩:=HC.out j hlt
   have hbw:b<wr.heap.size:=by have:=HB.out.size;omega
   rw [←(bel_next HB.out HBR.out).cell (p:=⟨b,off+j,none⟩) hb] at hz
   obtain⟨a,ha,ha2⟩:=aq3 z 8 (by decide)
   replace ha:(IntKind.u64.wrap z).tmod 8=(a:Int):=ha
   obtain⟨x,hx⟩: ∃x,af5[a]'ha2=x:=⟨_,rfl⟩
   have hxm:x ∈ af5:=hx▸List.getElem_mem _
   have hxl:=ak1 x hxm
   have hx1:x=frT [a]:=hx▸am2 ha2
   have hnew:StrS wr.heap.size af5 (wr.alloc (.cells #[.string ⟨#[39,97,39,59]⟩,.string ⟨#[34,117,115,101,32,115,116,114,105,99,116,34,59,10]⟩,.string ⟨#[40,39,97,39,41,59]⟩,.string ⟨#[39,97,39,32,43,32,98,59]⟩,.string ⟨#[39,97,39,44,32,98,59]⟩,.string ⟨#[59]⟩,.string ⟨#[98,59]⟩,.string ⟨#[39,97,39,46,98,59]⟩] 9)):=StrS.new wr af5 9
   have cx:=hnew.2 a ha2
   rw [hx] at cx
   obtain⟨t,ht⟩: ∃t:ByteArray,(⟨x.toArray⟩:ByteArray)=t:=⟨_,rfl⟩
   rw [ht] at cx
   have htl:t.data.toList=frT [a]:=by rw [←ht,←hx1]
   have hts:t.size≤14:=by rw [aj8 htl,←hx1];exact hxl
   have HTL:=Lib.hid htl
   have la:IntKind.i64.wrap (a:Int)=a:=by rw [IntKind.wrap_i64];omega
   have na:(0:Int)≤(a:Int):=by omega
   have ma:(a:Int)<8:=by omega
   have hal:=alloc_bel wr (.cells #[.string ⟨#[39,97,39,59]⟩,.string ⟨#[34,117,115,101,32,115,116,114,105,99,116,34,59,10]⟩,.string ⟨#[40,39,97,39,41,59]⟩,.string ⟨#[39,97,39,32,43,32,98,59]⟩,.string ⟨#[39,97,39,44,32,98,59]⟩,.string ⟨#[59]⟩,.string ⟨#[98,59]⟩,.string ⟨#[39,97,39,46,98,59]⟩] 9)
   have hz2:=(hal.cell (p:=⟨b,off+j,none⟩) hbw).trans hz
   have HAL:=Lib.hid hal
   clear hx hxm hnew ht htl hx1 hxl hal
   go_upto_region 10 with fail
   generalize World.alloc wr _=w5 at*
   clear cx hz
   by_cases hgt:2≤a
   ·have hg1:(1:Int)<(a:Int):=by omega
    go_wp2_with fail
    go_roundw
    case rel=>
     refine af6 (ks:=ks) (S:=S) (a:=a) (m:=m) (eb:=eb) hlt hlt20 hoj HM.out ha2 HS.out (by simp [ByteArray.data_append,HTL.out]) HL.out HEB.out ?_ rfl HBR.out HAL.out
     rw [decide_eq_true hgt,Bool.or_true]
    case measure=>simp [intOf];omega
   ·have hg1: ¬(1:Int)<(a:Int):=by omega
    cases eb with
    |true=>
     go_wp2_with fail
     go_roundw
     case rel=>exact af6 (ks:=ks) (S:=S) (a:=a) (m:=m) (eb:=true) hlt hlt20 hoj HM.out ha2 HS.out (by simp [ByteArray.data_append,HTL.out]) HL.out HEB.out rfl rfl HBR.out HAL.out
     case measure=>simp [intOf];omega
    |false=>
     go_wp2_with fail
     go_roundw
     case rel=>exact af6 (ks:=ks) (S:=S) (a:=a) (m:=m) (eb:=false) (m':=m+1) hlt hlt20 hoj HM.out ha2 HS.out (by simp [ByteArray.data_append,HTL.out]) HL.out HEB.out (by rw [decide_eq_false hgt];rfl) rfl HBR.out HAL.out
     case measure=>simp [intOf];omega
  ·have hend:j=len∨(j=20∧20<len):=by omega
   obtain⟨A2,hA2⟩: ∃A2:ByteArray,(⟨#[102,117,110,99,116,105,111,110,32,102,40,41,32,123,32]⟩:ByteArray)++S++⟨#[32,125]⟩=A2:=⟨_,rfl⟩
   obtain⟨A3,hA3⟩: ∃A3:ByteArray,(⟨#[123,32]⟩:ByteArray)++S++⟨#[32,125]⟩=A3:=⟨_,rfl⟩
   obtain⟨⟨n1,q1,e1,z1,d1,k1⟩,⟨n2,q2,e2,z2,d2,a2,b2,c2,dd2,ee2,f2,g2,h2,i2,j2,o2,l2,kk2,k2⟩,⟨n3,q3,e3,z3,d3,a3,b3,c3,l3,kk3,k3⟩⟩:=ak7 (s1:=S) (s2:=A2) (s3:=A3) 30 (ks:=ks) HM.out (by omega) HS.out (by rw [←hA2];simp [ByteArray.data_append,HS.out]) (by rw [←hA3];simp [ByteArray.data_append,HS.out])
   have hs2:A2.size≤1048576:=by rw [←hA2,ByteArray.size_append,ByteArray.size_append];show 15+S.size+2≤1048576;omega
   have hs3:A3.size≤1048576:=by rw [←hA3,ByteArray.size_append,ByteArray.size_append];show 2+S.size+2≤1048576;omega
   have HW:Hid (Below w.heap.size w wr):=Lib.hid (bel_next HB.out HBR.out)
   have HA1:=Lib.hid (ab1 56 (by decide) (by omega) e1 z1 wr (HX.out.bel HW.out))
   have HA2:=Lib.hid (fun W (h:Below wr.heap.size wr W)=>ab1 62 (by decide) hs2 e2 z2 W (HX.out.bel (bel_next HW.out h)))
   have HA3:=Lib.hid (fun W (h:Below wr.heap.size wr W)=>ab1 59 (by decide) hs3 e3 z3 W (HX.out.bel (bel_next HW.out h)))
   rw [ad0 d1] at HA1
   rw [ad0 d2,kk2] at HA2
   rw [ad0 d3,kk3] at HA3
   rw [HL.out] at k1 k2
   have y1:(bareNd n1).kids.length≤4194304:=ae1 z1 (by cases bareNd n1;rw [ndSize];exact Nat.le_add_left _ _)
   have y2:l2.length≤4194304:=ae1 z2 (by
    have:ndSizes (bareNd n2).kids≤ndSize (bareNd n2):=by cases bareNd n2;rw [ndSize];exact Nat.le_add_left _ _
    rw [kk2] at this
    simp only [ndSizes,ndSize] at this
    omega)
   have y3:l3.length≤4194304:=ae1 z3 (by
    have:ndSizes (bareNd n3).kids≤ndSize (bareNd n3):=by cases bareNd n3;rw [ndSize];exact Nat.le_add_left _ _
    rw [kk3] at this
    simp only [ndSizes,ndSize] at this
    omega)
   generalize (bareNd n1).kids=l1 at*
   have HK1:=Lib.hid k1
   have HK2:=Lib.hid k2
   have HK3:=Lib.hid k3
   have HQ2:=Lib.hid hA2
   have HQ3:=Lib.hid hA3
   clear e1 z1 d1 k1 e2 z2 d2 k2 kk2 e3 z3 d3 k3 kk3 hs2 hs3 hA2 hA3 HC HM HS HL HEB HB HBR
   rcases hend with rfl|⟨rfl,hl20⟩
   all_goals
    go_wp2_with fail
    refine HA1.out.mono ?_
    rintro e w2 ⟨p1,c1,rfl,_,hr1,hb2⟩
    go_wp2_with fail
    rw [HQ2.out]
    refine(HA2.out _ hb2).mono ?_
    rintro e w3 ⟨p2,c2',rfl,_,hr2,hb3⟩
    go_wp2_with fail
    rw [HQ3.out]
    refine(HA3.out _ (bel_next hb2 hb3)).mono ?_
    rintro e w4 ⟨p3,c3',rfl,_,hr3,hb4⟩
    have s3:=hb3.size
    have s4:=hb4.size
    have HBE:=Lib.hid (bel_next (bel_next (bel_next HW.out hb2) hb3) hb4)
    have r1:RowP w4 0 w4.heap.size l1 p1 0:=RowP_keep (Nat.zero_le _) (by omega) (fun k _ hk=>(bel_next hb3 hb4).block k hk) hr1
    have r2:=RowP_keep (L':=0) (B':=w4.heap.size) (Nat.zero_le _) (by omega) (fun k _ hk=>hb4.block k hk) hr2
    obtain⟨g0,o0,g1,o1,cc1,gg2,oo2,cc2,pp3,cc3,rfl,x0,x1,x2,rr2⟩:=al4 r2
    obtain⟨g4,o4,pp4,cc4,rfl,x4,rr3⟩:=an8 hr3
    have D1:=Lib.hid (ab0 l1 p1 c1 w4 _ _ r1 y1)
    have D2:=Lib.hid (ab0 l2 pp3 cc3 w4 _ _ rr2 y2)
    have D3:=Lib.hid (ab0 l3 pp4 cc4 w4 _ _ rr3 y3)
    rw [HK1.out] at D1
    rw [HK2.out] at D2
    rw [HK3.out] at D3
    clear hr1 hr2 hr3 r1 r2 rr2 rr3 hb2 hb3 hb4 s3 s4 HA1 HA2 HA3
    go_wp2_with fail
    refine D1.out.mono ?_
    rintro e w5 ⟨rfl,rfl⟩
    go_wp2_with fail
    refine D2.out.mono ?_
    rintro e w6 ⟨rfl,rfl⟩
    go_wp2_with fail
    refine D3.out.mono ?_
    rintro e w7 ⟨rfl,rfl⟩
    go_wp2_with fail
    go_ret
    exact⟨rfl,HBE.out⟩
end
end Go.Proofs.YtnahajcjpmbflaaGreatDoor
