/- Further steps. Conditions: as stated. -/
import Derived.Test.YtnahajcjpmbflaaGreatDoorPn12
import Derived.Test.YtnahajcjpmbflaaGreatDoorPn14
import Derived.Test.YtnahajcjpmbflaaGreatDoorPn18
import Derived.Test.YtnahajcjpmbflaaGreatDoorPn19
import Derived.Test.YtnahajcjpmbflaaGreatDoorPn21
import Derived.Test.YtnahajcjpmbflaaGreatDoorPn23
import Derived.Test.YtnahajcjpmbflaaGreatDoorPn24
import Derived.Test.YtnahajcjpmbflaaGreatDoorPn27
import Derived.Test.YtnahajcjpmbflaaGreatDoorPn28
import Derived.Test.YtnahajcjpmbflaaGreatDoorPn29
import Derived.Test.YtnahajcjpmbflaaGreatDoorPn32
import Derived.Test.YtnahajcjpmbflaaGreatDoorPn41
set_option maxHeartbeats 16000000
set_option maxRecDepth 100000
namespace Go.Proofs.YtnahajcjpmbflaaGreatDoor
section
open Go.RowKit
mutual
def aa7:Nd→Nd→Bool
 | .mk k t ks _ _,b=>decide (k=b.kind) && decide (t=b.text) && decide (ks.length=b.kids.length) && ac0 ks b.kids
def ac0:List Nd→List Nd→Bool
 | [],_=>true
 |_::_,[]=>true
 |a::xs,b::ys=>aa7 a b && ac0 xs ys
end
theorem aj2 (a b:Nd):aa7 a b=(decide (a.kind=b.kind) && decide (a.text=b.text) && decide (a.kids.length=b.kids.length) && ac0 a.kids b.kids):=by cases a;rw [aa7];rfl
theorem ab7: ∀ {xs ys:List Nd},xs.length=ys.length→(ac0 xs ys=true↔∀i,(h:i<xs.length)→(h2:i<ys.length)→aa7 xs[i] ys[i]=true)
 | [],[],_=>by simp [ac0]
 | [],_::_,h=>by simp at h
 |_::_,[],h=>by simp at h
 |a::xs,b::ys,h=>by
  simp only [List.length_cons,Nat.add_right_cancel_iff] at h
  rw [ac0,Bool.and_eq_true,ab7 h]
  constructor
  ·rintro⟨h1,h2⟩ i hi hj
   cases i with
   |zero=>exact h1
   |succ i=>exact h2 i (by simpa using hi) (by simpa using hj)
  ·intro h3
   exact⟨h3 0 (by simp) (by simp),fun i hi hj=>h3 (i+1) (by simpa using hi) (by simpa using hj)⟩
theorem ab6 (a b:Nd):aa7 a b=true↔a.kind=b.kind∧a.text=b.text∧a.kids.length=b.kids.length∧∀i,(h:i<a.kids.length)→(h2:i<b.kids.length)→aa7 a.kids[i] b.kids[i]=true:=by
 rw [aj2]
 simp only [Bool.and_eq_true,decide_eq_true_eq]
 constructor
 ·rintro⟨⟨⟨h1,h2⟩,h3⟩,h4⟩
  exact⟨h1,h2,h3,(ab7 h3).1 h4⟩
 ·rintro⟨h1,h2,h3,h4⟩
  exact⟨⟨⟨h1,h2⟩,h3⟩,(ab7 h3).2 h4⟩
theorem ad2 (a:Nd):aa7 a a=true:=by
 induction a using Nd.ind with
 |h n ih=>exact(ab6 n n).2 ⟨rfl,rfl,rfl,fun i h _=>ih _ (List.getElem_mem h)⟩
theorem ah2 {w w':World} {L B:Nat} {n:Nd} {v:Value} (h:NdV w L B n v) (hb:Below B w w'):NdV w' L B n v:=by
 obtain⟨b,cap,h1,h2,h3⟩:=h
 exact⟨b,cap,h1,h2,RowP_bel h3 hb⟩
end
section
def escG:List UInt8→Bool
 | []=>true
 | [c]=>decide (c≠92)
 |c::d::l=>if c=92 then decide (d=96) && escG l else escG (d::l)
def aa9 (t:Tk) (k:Nat):Nd:= .mk 9 (t.text.extract 1 (t.text.size - k)) [] t.from' t.till
def ad5 (s:ByteArray) (R:(x:Fn)→PM x.Out) (from':Int):Nat→List Nd→Tk→PM Nd
 |0,_,_=>outP
 |g+1,kids,t=>
  if 4194304<kids.length then outP
  else if t.kind=8∨t.kind=10 then
   (if t.text.size<3∨16777216<t.text.size∨escG (t.text.extract 1 (t.text.size - 2)).data.toList=false then outP else do
    let _←takeP
    let x←R .inner
    let u←peekP s 1
    if punctT u ⟨#[125]⟩ then do
     let a←getP
     if a.ahead.isEmpty=false then outP else do
      modP fun q=> { q with at':=q.tok.from',goal:=0 }
      let v←peekP s 3
      let b←getP
      if b.ahead.isEmpty=false then outP else ad5 s R from' g ((kids++ [aa9 t 2])++ [x]) v
    else oddP)
  else (if t.text.size<2∨16777216<t.text.size∨escG (t.text.extract 1 (t.text.size - 1)).data.toList=false then outP else do
   let _←takeP
   nodeP 8 ⟨#[]⟩ from' (kids++ [aa9 t 1]))
def ab4 (s:ByteArray) (f:Nat) (R:(x:Fn)→PM x.Out):PM Nd:=do
 let p←getP
 ad5 s R p.tok.from' f [] p.tok
end
section
def stepQ (s:ByteArray) (module:Bool) (f:Nat) (R:(x:Fn)→PM x.Out):(x:Fn)→PM x.Out
 | .arguments from'=>argumentsQ s f R from'
 | .template _=>ab4 s f R
 | .paren t=>parenQ s R t
 | .yield=>yieldS s R
 | .returned t=>returnedS s R t
 | .jump t=>jumpS s module t
 | .declaration must=>declarationQ R must
 | .funcs must=>funcsQ s module R must
 | .callable text from' id of=>callableQ R text from' id of
 | .formals of=>formalsQ s f of
 | .function=>functionS s R
 | .statement t list=>statementQ s module R t list
 | .statements dir top e=>statementsQ s f R dir top e
 |x=>stepP s module f R x
def runQ (s:ByteArray) (module:Bool):Nat→(x:Fn)→PM x.Out
 |0,_=>outP
 |f+1,x=>stepQ s module f (runQ s module f) x
def ad0 (s:ByteArray) (m:Bool) (f:Nat):Res Nd:=readQ (expr1S s (runQ s m f)) (ps0 m)
def ab2 (s:ByteArray) (m:Bool) (f:Nat):Res Nd:=readQ (runQ s m f .program) (ps0 m)
end
section
open Go.RowKit
def Zs (i:Int) (t:Tk) (g fl ne ar:Int):Ps:=⟨i,t,[],g,[],fl,ne,ar,[]⟩
def Sees (s:ByteArray) (g:Int) (i:Int) (t:Tk):Prop:=0≤i∧i≤(s.size:Int)∧∃q n,nxt s i.toNat g= .fine t.kind q n t.line []∧tkOf s t.kind q n t.line=t
def ad9 (t:Tk):Bool:=Lib.hasPrefix t.text.data.toList [47]
theorem PM.go {α β:Type} {x:PM α} {f:α→PM β} {p q:Ps} {a:α} (h:x p= .ok a q):(x>>=f) p=f a q:=by
 show PM.bind x f p=_
 unfold PM.bind
 rw [h]
section
variable {s:ByteArray} {g g' i fl ne ar:Int} {t tk:Tk}
theorem ab0 (h:Sees s g i t):peekP s g (Zs i tk 0 fl ne ar)= .ok t (Zs i t g fl ne ar):=by
 obtain⟨h0,h1,q,n,h2,h3⟩:=h
 unfold peekP cachedB Zs
 rw [if_neg (by simp)]
 unfold freshP
 simp only
 rw [if_neg (by omega),h2]
 simp only
 rw [h3]
theorem aa3 (hg:g≠0):peekP s g (Zs i t g fl ne ar)= .ok t (Zs i t g fl ne ar):=by
 unfold peekP cachedB Zs
 rw [if_pos (by simp [hg])]
theorem al0 (h1:g'≠0) (h2:g'≤2) (h3:g≤2) (hs:ad9 t=false):peekP s g (Zs i t g' fl ne ar)= .ok t (Zs i t g' fl ne ar):=by
 unfold ad9 at hs
 unfold peekP cachedB Zs
 rw [if_pos (by simp [h1,h2,h3,hs])]
theorem al2:takeP (Zs i t g fl ne ar)= .ok t (Zs t.till t 0 fl ne ar):=rfl
theorem ar1 (h:Sees s 1 i t) (p:Ps):lookP s i p= .ok t p:=by
 obtain⟨h0,h1,q,n,h2,h3⟩:=h
 unfold lookP lookT
 rw [if_neg (by omega),h2]
 simp only
 rw [h3]
 rfl
theorem ar9 {x:ByteArray} (hp:peekP s 1 (Zs i tk g' fl ne ar)= .ok t (Zs i t g fl ne ar)) (h:punctT t x=false):isP s x (Zs i tk g' fl ne ar)= .ok false (Zs i t g fl ne ar):=by
 unfold isP
 rw [PM.go hp,if_neg (by rw [h];decide)]
 rfl
end
structure Nm (t:Tk):Prop where
 kind:t.kind=1
 res:oneOf t.text resW=false
 aw:t.text≠⟨#[97,119,97,105,116]⟩
 asy:t.text≠⟨#[97,115,121,110,99]⟩
 sl:ad9 t=false
theorem am4 {t:ByteArray} {l:List ByteArray} (h:oneOf t l=false) {x:ByteArray} (hx:oneOf x l=true):t≠x:=by
 rintro rfl
 rw [h] at hx
 cases hx
theorem Nm.ne {t:Tk} (h:Nm t) {x:ByteArray} (hx:oneOf x resW=true):t.text≠x:=am4 h.res hx
theorem Nm.nameT {t:Tk} (h:Nm t) {x:ByteArray} (hx:oneOf x resW=true):nameT t x=false:=by
 unfold Go.Proofs.YtnahajcjpmbflaaGreatDoor.nameT
 rw [decide_eq_false (h.ne hx),Bool.and_false]
theorem Nm.punctT {t:Tk} (h:Nm t) (x:ByteArray):punctT t x=false:=by
 unfold Go.Proofs.YtnahajcjpmbflaaGreatDoor.punctT
 rw [h.kind]
 rfl
theorem Nm.ident {t:Tk} (h:Nm t) (m:Bool) (fl:Int):identB m fl t=true:=by
 unfold identB reservedB
 rw [if_neg h.aw,h.res,h.kind,decide_eq_true h.aw]
 simp
theorem ab3 {t:Tk} {x:ByteArray} (h:t.text≠x):nameT t x=false:=by
 unfold nameT
 rw [decide_eq_false h,Bool.and_false]
theorem aa2 {t:Tk} {x:ByteArray} (h:t.kind≠5):punctT t x=false:=by
 unfold punctT
 rw [decide_eq_false h,Bool.false_and]
theorem ai9 {t:Tk} {x:ByteArray} (h:t.text≠x):punctT t x=false:=by
 unfold punctT
 rw [decide_eq_false h,Bool.and_false]
theorem aa5 {t:Tk} {x:ByteArray} (h:t.kind≠1):nameT t x=false:=by
 unfold nameT
 rw [decide_eq_false h,Bool.false_and]
structure Endy (u:Tk):Prop where
 dot:punctT u ⟨#[46]⟩=false
 brk:punctT u ⟨#[91]⟩=false
 par:punctT u ⟨#[40]⟩=false
 opt:punctT u ⟨#[63,46]⟩=false
 k7:u.kind≠7
 k8:u.kind≠8
 inc:punctT u ⟨#[43,43]⟩=false
 dec:punctT u ⟨#[45,45]⟩=false
section
variable {s:ByteArray} {m:Bool} {g i fl ne ar:Int} {t u tk:Tk}
theorem ap2 (f:Nat) (h:Nm t) (hg:g=1∨g=2):runQ s m (f+1) (.named t) (Zs i t g fl ne ar)= .ok (leafN 1 t) (Zs t.till t 0 fl ne ar):=by
 show namedS s m (runQ s m f) t _=_
 have h1:oneOf t.text [⟨#[116,104,105,115]⟩,⟨#[110,117,108,108]⟩,⟨#[116,114,117,101]⟩,⟨#[102,97,108,115,101]⟩]=false:=by
  unfold oneOf
  rw [List.any_eq_false]
  intro x hx
  simp only [List.mem_cons,List.not_mem_nil,or_false] at hx
  rcases hx with rfl|rfl|rfl|rfl<;>(rw [decide_eq_false (h.ne (by decide))];decide)
 unfold namedS
 rw [if_neg (by rw [h1];decide),if_neg (h.ne (by decide)),if_neg (h.ne (by decide)),if_neg h.asy]
 unfold takeIdentP
 have hp:peekP s 1 (Zs i t g fl ne ar)= .ok t (Zs i t g fl ne ar):=al0 (by omega) (by omega) (by omega) h.sl
 rw [PM.go hp]
 show(if identB m fl t then _ else _:PM Nd) _=_
 rw [if_pos (h.ident m fl),PM.go al2]
 rfl
theorem an5 (f:Nat) (h:Nm t) (hg:g=1∨g=2) (calls:Bool):runQ s m (f+3) (.base t calls) (Zs i t g fl ne ar)= .ok (leafN 1 t) (Zs t.till t 0 fl ne ar):=by
 show baseS s m (runQ s m (f+2)) t calls _=_
 unfold baseS
 rw [if_neg (by rw [h.nameT (by decide)];decide),if_neg (by rw [h.nameT (by decide)];decide),if_neg (by rw [h.nameT (by decide)];decide)]
 show primaryS (runQ s m (f+1)) t _=_
 have hk:=h.kind
 unfold primaryS
 rw [if_neg (by omega),if_neg (by omega),if_neg (by omega),if_pos hk]
 exact ap2 f h hg
theorem ah1 (f:Nat) (n:Nd) (calls tmpl:Bool) (hu:Endy u) (hp:peekP s 1 (Zs i tk g fl ne ar)= .ok u (Zs i u 1 fl ne ar)):runQ s m (f+1) (.link n calls tmpl) (Zs i tk g fl ne ar)= .ok (n,false) (Zs i u 1 fl ne ar):=by
 show linkS s (runQ s m f) n calls tmpl _=_
 unfold linkS
 rw [PM.go hp,if_neg (by rw [hu.dot];decide),if_neg (by rw [hu.brk];decide),if_neg (by rw [hu.par];simp),if_neg (by have:=hu.k7;have:=hu.k8;omega)]
 rfl
theorem ad6 (p:Ps):getP p= .ok p p:=rfl
theorem ac7 (hg:g=1∨g=2) (hs:ad9 t=false) {g2:Int} (h2:g2≤2):peekP s g2 (Zs i t g fl ne ar)= .ok t (Zs i t g fl ne ar):=al0 (by omega) (by omega) h2 hs
theorem ae1 (t:Tk): ¬(leafN 1 t).kind=22:=by
 show¬(1:Int)=22
 decide
theorem aq4 (f:Nat) {p:Ps} (h:Nm t) (hg:g=1∨g=2) (hp:peekP s 2 p= .ok t (Zs i t g fl ne ar)) (hu:Endy u) (hs:Sees s 1 t.till u):
  runQ s m (f+4) .leftHand p= .ok (leafN 1 t) (Zs t.till u 1 fl ne ar):=by
 show leftHandS s (f+3) (runQ s m (f+3)) p=_
 unfold leftHandS
 rw [PM.go hp,PM.go (ad6 _)]
 show(runQ s m (f+3) (.base t true)>>=_) _=_
 rw [PM.go (an5 f h hg true),if_neg (ae1 t),if_neg (by rw [show decide ((leafN 1 t).text=⟨#[97,115,121,110,99]⟩)=false from decide_eq_false h.asy];simp)]
 unfold leftHandS.linkL
 rw [PM.go (ab0 hs),if_neg (by rw [hu.opt];decide),PM.go (ah1 (f+2) (leafN 1 t) true true hu (aa3 (by decide))),if_neg (show¬((false:Bool)=true) by decide)]
 rfl
theorem ap1 (f:Nat) {p:Ps} (h:Nm t) (hg:g=1∨g=2) (hp:peekP s 2 p= .ok t (Zs i t g fl ne ar)) (hu:Endy u) (hs:Sees s 1 t.till u):
  runQ s m (f+5) .unary p= .ok (leafN 1 t) (Zs t.till u 1 fl ne ar):=by
 show unaryS s (runQ s m (f+4)) p=_
 unfold unaryS
 rw [PM.go hp,if_neg (by rw [h.nameT (by decide),h.nameT (by decide),h.nameT (by decide),h.punctT,h.punctT,h.punctT,h.punctT];decide),PM.go (ad6 _),if_neg (by rw [ab3 h.aw];simp),if_neg (by rw [h.punctT,h.punctT];decide),PM.go (aq4 f h hg (ac7 hg h.sl (by decide)) hu hs),if_neg (ae1 t),PM.go (aa3 (by decide)),if_neg (by rw [hu.inc,hu.dec];simp)]
 rfl
theorem al3 (f:Nat) (least:Int) {p:Ps} (h:Nm t) (hg:g=1∨g=2) (hp:peekP s 2 p= .ok t (Zs i t g fl ne ar)) (hu:Endy u) (hs:Sees s 1 t.till u):
  runQ s m (f+6) (.operand least) p= .ok (leafN 1 t) (Zs t.till u 1 fl ne ar):=by
 show operandS s (runQ s m (f+5)) least p=_
 unfold operandS
 rw [PM.go hp,if_pos (by rw [h.kind];decide)]
 exact ap1 f h hg (ac7 hg h.sl (by decide)) hu hs
end
end
section
open Go.RowKit
structure Opr (o:Tk):Prop where
 op:(decide (o.kind≠5) && !nameT o ⟨#[105,110,115,116,97,110,99,101,111,102]⟩ && !nameT o ⟨#[105,110]⟩)=false
 lo:2≤levelB o.text
 hi:levelB o.text≤12
 star:levelB o.text=12↔o.text=⟨#[42,42]⟩
 e:Endy o
structure Stp (u:Tk):Prop where
 op:(decide (u.kind≠5) && !nameT u ⟨#[105,110,115,116,97,110,99,101,111,102]⟩ && !nameT u ⟨#[105,110]⟩)=true∨levelB u.text=0
 e:Endy u
section
variable {s:ByteArray}
def Row (s:ByteArray):Int→List (Tk × Tk)→Tk→Prop
 |i,[],e=>Sees s 1 i e
 |i,x::l,e=>Sees s 1 i x.1∧Opr x.1∧Sees s 2 x.1.till x.2∧Nm x.2∧Row s x.2.till l e
def ap6:Tk→List (Tk × Tk)→Tk
 |v,[]=>v
 |_,x::l=>ap6 x.2 l
def ar8:List (Tk × Tk)→Tk→Tk
 | [],e=>e
 |x::_,_=>x.1
theorem Row.drop {e:Tk} : ∀ {a b:List (Tk × Tk)} {v:Tk},Row s v.till (a++b) e→Row s (ap6 v a).till b e
 | [],_,_,h=>h
 |x::a,_,_,h=>Row.drop (a:=a) (v:=x.2) h.2.2.2.2
theorem Row.head {l:List (Tk × Tk)} {i:Int} {e:Tk} (h:Row s i l e):Sees s 1 i (ar8 l e):=by
 cases l with
 |nil=>exact h
 |cons x l=>exact h.1
theorem an6 (t:Tk):bareNd (leafN 1 t)= .mk 1 t.text [] 0 0:=by
 unfold leafN
 rw [bareNd,if_neg (by decide),bareNds]
variable {m:Bool}
theorem ah0 {i ne ar:Int} {u:Tk} (h:Stp u): ∃r:Tk × Int,r.2=0∧operatorP s (Zs i u 1 1 ne ar)= .ok r (Zs i u 1 1 ne ar):=by
 unfold operatorP
 rw [PM.go (aa3 (by decide)),PM.go (ad6 _)]
 have h2:hasF 1 1=true:=by decide
 show∃r:Tk × Int,r.2=0∧(if (decide (u.kind≠5) && !nameT u ⟨#[105,110,115,116,97,110,99,101,111,102]⟩ && (!nameT u ⟨#[105,110]⟩|| !hasF 1 1))=true then _ else _:PM (Tk × Int)) _=_
 rw [h2,Bool.not_true,Bool.or_false]
 rcases h.op with h1|h1
 ·rw [if_pos h1]
  exact⟨_,rfl,rfl⟩
 ·split
  ·exact⟨_,rfl,rfl⟩
  ·exact⟨_,h1,rfl⟩
end
end
section
open Go.RowKit
section
variable {s:ByteArray} {p:Nat}
theorem ar5 {c:UInt8} {l:List UInt8} (hd:s.data.toList.drop p=c::l):p<s.size:=by
 have h:=congrArg List.length hd
 rw [List.length_drop,List.length_cons] at h
 show p<s.data.size
 rw [←Array.length_toList]
 omega
theorem ao6 {c:UInt8} {l:List UInt8} (hd:s.data.toList.drop p=c::l):s.data.toList.drop (p+1)=l:=by
 rw [←List.drop_drop,hd]
 rfl
theorem ag0 {a l:List UInt8} (hd:s.data.toList.drop p=a++l):s.data.toList.drop (p+a.length)=l:=by
 rw [←List.drop_drop,hd,List.drop_left]
theorem af2 {a l:List UInt8} (hd:s.data.toList.drop p=a++l) (hp:p≤s.size):p+a.length≤s.size:=by
 have h:=congrArg List.length hd
 rw [List.length_drop,List.length_append] at h
 have h2:s.data.toList.length=s.size:=Array.length_toList
 omega
theorem ac5 {a l:List UInt8} (hd:s.data.toList.drop p=a++l):s.extract p (p+a.length)=⟨a.toArray⟩:=by
 apply ba_ext
 rw [ByteArray.data_extract,Array.toList_extract,List.extract_eq_take_drop,hd,Nat.add_sub_cancel_left,List.take_left]
def Ink (l:List UInt8):Prop:=isGap l=false∧∀p,0<p→cmKind p l=0
theorem af3 {l:List UInt8} {line:Bool} (hd:s.data.toList.drop p=l) (hp:p≤s.size) (h:isGap l=false∧cmKind p l=0):btw s p line= .fine p line []:=by
 rw [btw_step s p line hp,hd,if_neg (by rw [h.1];decide),if_pos h.2]
theorem ai7 {g:Int} (hg:g=1∨g=2) {q:Nat} {line:Bool} {kind:Int} {n:Nat} (hb:btw s p false= .fine q line []) (ht:plainT g (s.data.toList.drop q)= .fine kind n):nxt s p g= .fine kind q n line []:=by
 unfold nxt tokT
 rcases hg with rfl|rfl<;>
 ·rw [if_neg (by rintro(h|h|⟨h,_⟩)<;>omega),if_neg (by decide),hb]
  simp only
  rw [if_neg (by decide),if_neg (by decide),if_neg (by decide),ht]
def endT (p:Nat):Tk:=⟨0,⟨#[]⟩,p,p,false⟩
theorem ah9 {g:Int} (hg:g=1∨g=2) (hd:s.data.toList.drop p= []) (hp:p≤s.size):Sees s g p (endT p):=by
 refine⟨by omega,by omega,p,0,?_,?_⟩
 ·rw [Int.toNat_natCast]
  refine ai7 hg (af3 hd hp ⟨rfl,?_⟩) ?_
  ·unfold cmKind
   rw [if_neg (by decide),if_neg (by decide),if_neg (by simp [Lib.hasPrefix])]
  ·rw [hd]
   rfl
 ·unfold tkOf endT
  have:s.extract p (p+0)=⟨#[]⟩:=ac5 (a:= []) (l:= []) hd
  rw [this]
  simp
end
def af7 (c:UInt8):Bool:=decide (c.toNat<128) && partC (c.toNat:Int)
theorem ae6 {l:List UInt8} (hl:goesP false l=false): ∀(a:List UInt8),(∀c ∈ a,af7 c=true)→partsL false (a++l)=a.length
 | [],_=>partsL_no hl
 |c::a,h=>by
  have hc:=h c (.head _)
  unfold af7 at hc
  rw [Bool.and_eq_true,decide_eq_true_eq] at hc
  have hg:goesP false (c::(a++l))=true:=by
   unfold goesP
   rw [nx_ascii _ _ hc.1,hc.2]
   rfl
  rw [List.cons_append,partsL_yes hg,nx_ascii _ _ hc.1]
  show 1+partsL false (a++l)=_
  rw [ae6 hl a (fun c hc=>h c (.tail _ hc)),List.length_cons]
  omega
theorem ai8 {c:UInt8} {a l:List UInt8} (hc:c.toNat<128) (hs:startC (c.toNat:Int)=true) (ha: ∀c ∈ a,af7 c=true) (hl:goesP false l=false):nameL false (c::(a++l))=a.length+1:=by
 have hw: ∀x ∈ c::a,af7 x=true:=by
  intro x hx
  rcases List.mem_cons.1 hx with rfl|hx
  ·unfold af7 partC
   rw [decide_eq_true hc,hs]
   rfl
  ·exact ha x hx
 unfold nameL
 rw [nx_ascii _ _ hc,if_pos ⟨show (0:Int)<1 by decide,hs⟩,←List.cons_append,ae6 hl _ hw,List.length_cons]
@[reducible] def low (c:UInt8):Prop:=97≤c.toNat∧c.toNat≤122
theorem aa1 {c d:UInt8} {l w:List UInt8} (h:c≠d):Lib.hasPrefix (c::l) (d::w)=false:=by
 unfold Lib.hasPrefix
 rw [List.isPrefixOf_cons_cons,beq_eq_false_iff_ne.2 (Ne.symm h),Bool.false_and]
theorem ai5 {g:Int} {c:UInt8} {a l:List UInt8} (hlo:low c) (hs:startC (c.toNat:Int)=true) (ha: ∀c ∈ a,af7 c=true) (hl:goesP false l=false) (hl2:0≤(nx l).2):
  plainT g (c::a++l)= .fine 1 (c::a).length:=by
 obtain⟨h1,h2⟩:=hlo
 have hn: ∀d:UInt8,d.toNat<97→c≠d:=by rintro d hd rfl;omega
 have hdig:digAt (c::(a++l))=false:=by
  unfold digAt
  rw [decide_eq_false_iff_not]
  omega
 have hw:=ai8 (l:=l) (by omega) hs ha hl
 rw [List.cons_append]
 unfold plainT
 rw [if_neg (by simp),if_neg (by rw [aa1 (hn _ (by decide))];decide),if_neg (by rw [aa1 (hn _ (by decide))];decide),if_neg (by rw [hdig,aa1 (hn 46 (by decide))];simp),if_neg (by rw [aa1 (hn _ (by decide)),aa1 (hn _ (by decide))];simp),if_neg (by rw [aa1 (hn _ (by decide))];simp),hw,if_pos (by omega)]
 unfold aft
 rw [show (c::(a++l)).drop (a.length+1)=l by rw [List.drop_succ_cons,List.drop_left],if_neg (by omega),List.length_cons]
theorem an1 {f:Nat→Bool} {m:Nat} (h:(List.range m).all f=true) (n:Nat) (hn:n<m):f n=true:=List.all_eq_true.1 h n (List.mem_range.2 hn)
theorem ao3:(List.range 127).all (fun n=>decide (n<33)|| !(endsR (n:Int)||blankR (n:Int)))=true:=by kernel_rfl
theorem ao2:(List.range 127).all (fun n=>decide (n<97∨122<n)||startC (n:Int))=true:=by kernel_rfl
theorem aq2 {c:UInt8} {l:List UInt8} (h1:33≤c.toNat) (h2:c.toNat<127) (h3:c≠47) (h4:c≠35):Ink (c::l):=by
 refine⟨?_,fun p hp=> ?_⟩
 ·unfold isGap
  rw [nx_ascii _ _ (by omega)]
  show(decide ((0:Int)<1) && (endsR (c.toNat:Int)||blankR (c.toNat:Int)))=false
  have h:=(Bool.or_eq_true _ _).mp (an1 ao3 c.toNat h2)
  rw [Bool.not_eq_true',decide_eq_true_eq] at h
  rw [h.resolve_left (by omega),Bool.and_false]
 ·unfold cmKind
  rw [if_neg (by rw [aa1 h3];decide),if_neg (by rw [aa1 h3];decide),if_neg (by rw [aa1 h4];simp)]
theorem af9 {c:UInt8} (h:low c):startC (c.toNat:Int)=true:=by
 obtain⟨h1,h2⟩:=h
 have h:=an1 ao2 c.toNat (by omega)
 simp only [Bool.or_eq_true,decide_eq_true_eq] at h
 exact h.resolve_left (by omega)
theorem al5 {c:UInt8} (h:low c):af7 c=true:=by
 unfold af7 partC
 rw [af9 h,Bool.true_or,decide_eq_true (show c.toNat<128 by have:=h.2;omega)]
 rfl
end
section
open Go.RowKit
def aq6 (c:UInt8):Bool:=decide (c.toNat<128) && !startC (c.toNat:Int) && decide (c≠96∧c≠35∧c≠46∧c≠39∧c≠34∧¬(48≤c.toNat∧c.toNat≤57))
def row2 (x:List UInt8 × List UInt8):ByteArray × ByteArray:=(⟨x.1.toArray⟩,⟨(118::x.2).toArray⟩)
theorem an9 (p:Nat):Stp (endT p):=⟨.inr rfl,⟨rfl,rfl,rfl,rfl,(show¬(0:Int)=7 by decide),(show¬(0:Int)=8 by decide),rfl,rfl⟩⟩
section
variable {s:ByteArray} {m:Bool} {i g fl ne ar:Int} {u v:Tk} {n:Nd} {p:Ps} {f:Nat}
theorem am9 (hb:runQ s m f (.binary 1 false) p= .ok n (Zs i u 1 fl ne ar)) (hk:n.kind≠22) (hq:punctT u ⟨#[63]⟩=false):runQ s m (f+1) .cond p= .ok n (Zs i u 1 fl ne ar):=by
 show condS s (runQ s m f) p=_
 unfold condS
 rw [PM.go hb,if_neg hk,PM.go (ar9 (aa3 (by decide)) hq),if_neg (by decide)]
 rfl
theorem ae2 (hk:n.kind≠22) (ha:assigningT u=false):runQ s m (f+1) (.assigned n) (Zs i u 1 fl ne ar)= .ok n (Zs i u 1 fl ne ar):=by
 show assignedS s (runQ s m f) n _=_
 unfold assignedS
 rw [if_neg hk,PM.go (aa3 (by decide)),if_neg (by rw [ha];decide)]
 rfl
theorem am0 {α:Type} {x:PM α} {i':Int} {u':Tk} {g' fl' ar' place:Int} {a:α} (h0:0≤ne) (h1:ne<4000) (hx:x (Zs i u g fl (ne+1) ar)= .ok a (Zs i' u' g' fl' (ne+1) ar')):deeperP place x (Zs i u g fl ne ar)= .ok a (Zs i' u' g' fl' ne ar'):=by
 unfold deeperP
 show(if 4000≤ne then _ else _)=_
 rw [if_neg (by omega)]
 show PM.bind x _ (Zs i u g fl (ne+1) ar)=_
 unfold PM.bind
 rw [hx]
 show(if ne+1≤0 then _ else _)=_
 rw [if_neg (by omega)]
 show Res.ok a (Zs _ _ _ _ (ne+1 - 1) _)=_
 rw [Int.add_sub_cancel]
 rfl
theorem ab5 (ha:runQ s m f .assign p= .ok n (Zs i u 1 fl ne ar)) (hc:punctT u ⟨#[44]⟩=false):runQ s m (f+1) .expression p= .ok n (Zs i u 1 fl ne ar):=by
 show expressionS s f (runQ s m f) p=_
 unfold expressionS
 rw [PM.go ha,PM.go (aa3 (by decide)),if_neg (by rw [hc];decide)]
 rfl
theorem an2 (he:runQ s m f .expression (ps0 m)= .ok n (Zs i u 1 fl ne ar)) (hu:u.kind=0) (hn:noProp n=true) (hz:ndSize n≤8000):ad0 s m f= .ok n (Zs i u 1 fl ne ar):=by
 have hd:=deep_le n
 unfold ad0 readQ expr1S
 rw [PM.go (show _=Res.ok n (Zs i u 1 fl ne ar) by rw [PM.go he,PM.go (aa3 (by decide)),if_pos hu];rfl),if_neg (by rw [hn];decide),if_neg (by omega),if_neg (by omega)]
 rfl
end
end
section
open Go.RowKit
section
variable {s:ByteArray} {m:Bool} {i g fl ne ar:Int} {u v t d b e:Tk} {n:Nd} {p:Ps} {f:Nat}
def sgB (t:Tk):Bool:=nameT t ⟨#[100,101,108,101,116,101]⟩||nameT t ⟨#[118,111,105,100]⟩||nameT t ⟨#[116,121,112,101,111,102]⟩||punctT t ⟨#[43]⟩||punctT t ⟨#[45]⟩||punctT t ⟨#[126]⟩||punctT t ⟨#[33]⟩
structure SgT (o:Tk):Prop where
 k2:o.kind≠2
 yi:nameT o ⟨#[121,105,101,108,100]⟩=false
 asy:nameT o ⟨#[97,115,121,110,99]⟩=false
 aw:nameT o ⟨#[97,119,97,105,116]⟩=false
 arr:punctT o ⟨#[61,62]⟩=false
def Sg1 (o:Tk):Prop:=sgB o=true∧o.text≠⟨#[43,43]⟩∧o.text≠⟨#[45,45]⟩
def Sg2 (o:Tk):Prop:=sgB o=false∧(punctT o ⟨#[43,43]⟩||punctT o ⟨#[45,45]⟩)=true
def SgR (s:ByteArray) (e:Tk):Int→List Tk→Prop
 |i,[]=> ∃t d b:Tk,Nm t∧Sees s 2 i t∧Sees s 1 i t∧Sees s 1 t.till d∧punctT d ⟨#[46]⟩=true∧Sees s 1 d.till b∧b.kind=1∧Sees s 1 b.till e∧t.text=⟨#[97]⟩∧b.text=⟨#[98]⟩
 |i,o::l=>Sees s 2 i o∧Sees s 1 i o∧SgT o∧(Sg1 o∨(Sg2 o∧l= []))∧SgR s e o.till l
theorem SgR.head {l:List Tk} (h:SgR s e i l): ∃v,Sees s 2 i v∧Sees s 1 i v∧v.kind≠2∧nameT v ⟨#[121,105,101,108,100]⟩=false∧nameT v ⟨#[97,115,121,110,99]⟩=false∧punctT v ⟨#[61,62]⟩=false:=by
 cases l with
 |nil=>
  obtain⟨t,d,b,h1,h2,h3,_⟩:=h
  exact⟨t,h2,h3,by rw [h1.kind];decide,h1.nameT (by decide),ab3 h1.asy,h1.punctT _⟩
 |cons o l=>exact⟨o,h.1,h.2.1,h.2.2.1.k2,h.2.2.1.yi,h.2.2.1.asy,h.2.2.1.arr⟩
theorem aj1 (ho:runQ s m (f+1) (.operand 1) p= .ok n (Zs i u 1 1 ne ar)) (hk:n.kind≠22) (hu:Stp u):runQ s m (f+2) (.binary 1 false) p= .ok n (Zs i u 1 1 ne ar):=by
 show binaryS s (f+1) (runQ s m (f+1)) 1 false p=_
 unfold binaryS
 rw [PM.go ho,if_neg hk]
 obtain⟨r,r1,r2⟩:=ah0 (s:=s) (i:=i) (ne:=ne) (ar:=ar) hu
 unfold binaryS.opsL
 rw [PM.go r2,if_pos (.inr r1)]
 rfl
theorem ag6 (least:Int) (hp:peekP s 2 p= .ok v (Zs i v g fl ne ar)) (hk:v.kind≠2):runQ s m (f+1) (.operand least) p=runQ s m f .unary (Zs i v g fl ne ar):=by
 show operandS s (runQ s m f) least p=_
 unfold operandS
 rw [PM.go hp,if_pos hk]
theorem ai4 (hv:nameT v ⟨#[97,115,121,110,99]⟩=false) (hu:Sees s 1 v.till u) (har:punctT u ⟨#[61,62]⟩=false):assignS.single s m v (Zs i v g fl ne ar)= .ok false (Zs i v g fl ne ar):=by
 unfold assignS.single
 rw [PM.go (ad6 _),if_neg (by rw [hv];decide)]
 show((pure v:PM Tk)>>=_) _=_
 rw [PM.go (show(pure v:PM Tk) (Zs i v g fl ne ar)= .ok v (Zs i v g fl ne ar) from rfl),PM.go (ar1 hu _),if_pos (by rw [har];simp)]
 rfl
theorem ae0 {i' g' fl' ar' i2 g2 fl2 ar2:Int} {u' u2:Tk} {n2:Nd} (hy:nameT v ⟨#[121,105,101,108,100]⟩=false) (hv:nameT v ⟨#[97,115,121,110,99]⟩=false) (hp:peekP s 2 p= .ok v (Zs i v g fl ne ar)) (hu:Sees s 1 v.till u) (har:punctT u ⟨#[61,62]⟩=false) (h0:0≤ne) (h1:ne<4000)
  (hc:runQ s m f .cond (Zs i v g fl (ne+1) v.from')= .ok n (Zs i' u' g' fl' (ne+1) ar')) (ha:runQ s m f (.assigned n) (Zs i' u' g' fl' (ne+1) ar')= .ok n2 (Zs i2 u2 g2 fl2 (ne+1) ar2)):
  runQ s m (f+1) .assign p= .ok n2 (Zs i2 u2 g2 fl2 ne ar2):=by
 show assignS s m (runQ s m f) p=_
 unfold assignS
 rw [PM.go hp]
 refine am0 h0 h1 ?_
 rw [PM.go (ad6 _),if_neg (by rw [hy];simp),PM.go (ai4 hv hu har),if_neg (by decide)]
 rw [PM.go (show modP (fun q=> { q with arrow:=v.from' }) (Zs i v g fl (ne+1) ar)= .ok () (Zs i v g fl (ne+1) v.from') from rfl),PM.go hc]
 exact ha
end
end
section
open Go.RowKit
section
variable {s:ByteArray} {m:Bool} {i g fl ne ar:Int} {u v t d b e:Tk} {n:Nd} {p:Ps} {f:Nat}
theorem aj9 (f:Nat) (h:Nm v) (hg:g=1∨g=2) (hp:peekP s 2 p= .ok v (Zs i v g 1 ne ar)) (hu:Sees s 1 v.till u) (hst:Stp u):runQ s m (f+7) (.binary 1 false) p= .ok (leafN 1 v) (Zs v.till u 1 1 ne ar):=
 aj1 (al3 f 1 h hg hp hst.e hu) (ae1 v) hst
theorem aj3 (f:Nat) (h:Nm v) (hg:g=1∨g=2) (hp:peekP s 2 p= .ok v (Zs i v g 1 ne ar)) (hu:Sees s 1 v.till u) (hst:Stp u) (hq:punctT u ⟨#[63]⟩=false) (ha:assigningT u=false) (har:punctT u ⟨#[61,62]⟩=false) (h0:0≤ne) (h1:ne<4000):
  runQ s m (f+9) .assign p= .ok (leafN 1 v) (Zs v.till u 1 1 ne v.from'):=
 ae0 (ab3 (h.ne (by decide))) (ab3 h.asy) hp hu har h0 h1 (am9 (aj9 f h hg (ac7 hg h.sl (by decide)) hu hst) (ae1 v) hq) (ae2 (ae1 v) ha)
theorem aq9:setF 1 1 0=1:=by first|rfl|decide|kernel_rfl
theorem aq5 {α:Type} {x:PM α} {y:α} {i' g' ar':Int} {u':Tk} (hx:x (Zs i u g 1 ne ar)= .ok y (Zs i' u' g' 1 ne ar')):withP 1 0 x (Zs i u g 1 ne ar)= .ok y (Zs i' u' g' 1 ne ar'):=by
 have e:({ Zs i u g 1 ne ar with flags:=setF (Zs i u g 1 ne ar).flags 1 0 } :Ps)=Zs i u g 1 ne ar:=by
  show(⟨i,u,[],g,[],setF 1 1 0,ne,ar,[]⟩:Ps)=_
  rw [aq9]
  rfl
 unfold withP
 rw [e]
 unfold PM.bind
 rw [hx]
 rfl
def AsR (s:ByteArray) (e:Tk):Int→List (Tk × Tk × Option (Tk × Tk))→Prop
 |i,[]=> ∃v:Tk,Nm v∧v.text=⟨#[118]⟩∧Sees s 2 i v∧Sees s 1 i v∧Sees s 1 v.till e
 |i,(a,o,none)::l=>Nm a∧a.text=⟨#[97]⟩∧Sees s 2 i a∧Sees s 1 a.till o∧Stp o∧punctT o ⟨#[61,62]⟩=false∧punctT o ⟨#[63]⟩=false∧assigningT o=true∧AsR s e o.till l
 |i,(a,o,some (t,d))::l=>Nm a∧a.text=⟨#[99]⟩∧Sees s 2 i a∧Sees s 1 a.till o∧Stp o∧punctT o ⟨#[61,62]⟩=false∧punctT o ⟨#[63]⟩=true∧
   Nm t∧t.text=⟨#[116]⟩∧Sees s 2 o.till t∧Sees s 1 t.till d∧Stp d∧punctT d ⟨#[58]⟩=true∧AsR s e d.till l
theorem AsR.head {l:List (Tk × Tk × Option (Tk × Tk))} (h:AsR s e i l): ∃v,Sees s 2 i v∧Nm v:=by
 match l,h with
 | [],⟨v,h1,_,h2,_⟩=>exact⟨v,h2,h1⟩
 |(a,o,none)::l,⟨h1,_,h2,_⟩=>exact⟨a,h2,h1⟩
 |(a,o,some (t,d))::l,⟨h1,_,h2,_⟩=>exact⟨a,h2,h1⟩
end
end
section
open Go.RowKit
section
variable {s:ByteArray} {m:Bool} {i g fl ne ar:Int} {u v t d b e o a c q:Tk} {n:Nd} {p:Ps} {f:Nat}
structure Cls (c:Tk):Prop where
 stp:Stp c
 q:punctT c ⟨#[63]⟩=false
 asg:assigningT c=false
 arr:punctT c ⟨#[61,62]⟩=false
 com:punctT c ⟨#[44]⟩=false
def LkM (s:ByteArray) (i j:Int):Prop:= ∃b:Tk,Sees s 1 i b∧b.kind=1∧b.text=⟨#[109]⟩∧b.till=j
def LkC (s:ByteArray) (i j:Int):Prop:= ∃o a c:Tk,Sees s 1 i o∧punctT o ⟨#[40]⟩=true∧Nm a∧a.text=⟨#[97]⟩∧Sees s 2 o.till a∧Sees s 1 a.till c∧punctT c ⟨#[41]⟩=true∧Cls c∧c.till=j
def LkX (s:ByteArray) (i j:Int):Prop:= ∃o a c:Tk,Sees s 1 i o∧punctT o ⟨#[91]⟩=true∧Nm a∧a.text=⟨#[105]⟩∧Sees s 2 o.till a∧Sees s 1 a.till c∧punctT c ⟨#[93]⟩=true∧Cls c∧c.till=j
def LkO (s:ByteArray) (i:Int) (P:Int→Prop):Prop:= ∃q:Tk,Sees s 1 i q∧punctT q ⟨#[63,46]⟩=true∧P q.till
def LkI (s:ByteArray) (i:Int) (k:Nat) (j:Int):Prop:=match k with
 |0=> ∃d:Tk,Sees s 1 i d∧punctT d ⟨#[46]⟩=true∧LkM s d.till j
 |1=>LkC s i j
 |2=>LkX s i j
 |3=>LkO s i fun h=>LkM s h j
 |4=>LkO s i fun h=>LkC s h j
 |_=>LkO s i fun h=>LkX s h j
def LkR (s:ByteArray) (e:Tk):Int→List Nat→Prop
 |i,[]=>Sees s 1 i e
 |i,k::l=> ∃j,LkI s i k j∧LkR s e j l
def idN (x:UInt8):Nd:= .mk 1 ⟨#[x]⟩ [] 0 0
theorem ag2 (t:Tk) {x:UInt8} (h:t.text=⟨#[x]⟩):bareNd (leafN 1 t)=idN x:=by rw [an6,h];rfl
theorem LkI.head {k:Nat} {j:Int} (h:LkI s i k j): ∃v,Sees s 1 i v∧v.kind=5:=by
 have key: ∀ {t:Tk} {x:ByteArray},punctT t x=true→t.kind=5:=fun h=>by
  unfold punctT at h
  rw [Bool.and_eq_true,decide_eq_true_eq] at h
  exact h.1
 match k,h with
 |0,⟨d,h,h2,_⟩=>exact⟨d,h,key h2⟩
 |1,⟨d,_,_,h,h2,_⟩=>exact⟨d,h,key h2⟩
 |2,⟨d,_,_,h,h2,_⟩=>exact⟨d,h,key h2⟩
 |3,⟨d,h,h2,_⟩=>exact⟨d,h,key h2⟩
 |4,⟨d,h,h2,_⟩=>exact⟨d,h,key h2⟩
 |_+5,⟨d,h,h2,_⟩=>exact⟨d,h,key h2⟩
theorem LkR.head {l:List Nat} (h:LkR s e i l): ∃v,Sees s 1 i v:=by
 match l,h with
 | [],h=>exact⟨e,h⟩
 |k::l,⟨j,h,_⟩=>obtain⟨v,h,_⟩:=h.head;exact⟨v,h⟩
end
end
section
open Go.RowKit
section
variable {s:ByteArray} {p:Nat}
def Ink0 (l:List UInt8):Prop:=isGap l=false∧∀p,cmKind p l=0
theorem ak6 {c:UInt8} {l:List UInt8} (h1:33≤c.toNat) (h2:c.toNat<127) (h3:c≠47) (h4:c≠35):Ink0 (c::l):=by
 refine⟨(aq2 h1 h2 h3 h4).1,fun p=> ?_⟩
 unfold cmKind
 rw [if_neg (by rw [aa1 h3];decide),if_neg (by rw [aa1 h3];decide),if_neg (by rw [aa1 h4];simp)]
theorem al9 {g:Int} (hg:g=1∨g=2) {a l:List UInt8} {kind:Int} (hd:s.data.toList.drop p=a++l) (hp:p≤s.size) (hi:Ink0 (a++l)) (ht:plainT g (a++l)= .fine kind a.length):
  Sees s g p ⟨kind,⟨a.toArray⟩,(p:Int),((p+a.length:Nat):Int),false⟩:=by
 refine⟨by omega,by omega,p,a.length,?_,?_⟩
 ·rw [Int.toNat_natCast]
  refine ai7 hg (af3 hd hp ⟨hi.1,hi.2 _⟩) ?_
  rw [hd]
  exact ht
 ·unfold tkOf
  rw [ac5 hd]
end
theorem ag4 {g:Int} {c:UInt8} {l:List UInt8} {n:Nat} (hc:aq6 c=true) (h47:c≠47) (hp:pct g (c::l)=n) (hn:n≠0):plainT g (c::l)= .fine 5 n:=by
 unfold aq6 at hc
 rw [Bool.and_eq_true,Bool.and_eq_true,decide_eq_true_eq,decide_eq_true_eq,Bool.not_eq_true'] at hc
 obtain⟨⟨h1,h2⟩,h3,h4,h5,h6,h7,h8⟩:=hc
 have hdig:digAt (c::l)=false:=by
  unfold digAt
  rw [decide_eq_false_iff_not]
  exact h8
 have hname:nameL false (c::l)=0:=by
  unfold nameL
  rw [nx_ascii _ _ h1,if_neg]
  rintro⟨_,h⟩
  simp only at h
  rw [h2] at h
  cases h
 unfold plainT
 rw [if_neg (by simp),if_neg (by rw [aa1 h3];decide),if_neg (by rw [aa1 h4];decide),if_neg (by rw [hdig,aa1 h5];simp),if_neg (by rw [aa1 h6,aa1 h7];simp),if_neg (by rintro⟨_,h⟩;rw [aa1 h47] at h;cases h),if_neg (by rw [hname];simp),hp,if_pos hn]
theorem ap5 {g:Int} {c:UInt8} {l:List UInt8} (h:c≠47):pct g (c::l)=match pctRow.find? (pctIs (c::l)) with|some w=>w.length|none=>0:=by
 unfold pct
 rw [if_neg (by rintro⟨_,h1⟩;rw [aa1 h] at h1;cases h1),if_neg (by rintro⟨_,h1⟩;rw [aa1 h] at h1;cases h1)]
 rfl
end
section
open Go.RowKit
section
variable {s:ByteArray} {m:Bool} {i j g ne ar ar2 c0 k0:Int} {t u v w tk:Tk} {n k:Nd} {p q:Ps} {f:Nat}
structure Opn (c:UInt8) (t:Tk):Prop where
 kind:t.kind=5
 text:t.text=⟨#[c]⟩
theorem Opn.name {c:UInt8} (h:Opn c t) (x:ByteArray):nameT t x=false:=aa5 (by rw [h.kind];decide)
theorem Opn.no {c:UInt8} (h:Opn c t) {x:ByteArray} (hx:(⟨#[c]⟩:ByteArray)≠x):punctT t x=false:=ai9 (by rw [h.text];exact hx)
theorem Opn.yes {c:UInt8} (h:Opn c t):punctT t ⟨#[c]⟩=true:=by
 unfold punctT
 rw [h.kind,h.text]
 simp
theorem ak7 (x:Nat):Cls (endT x):=⟨an9 x,rfl,rfl,rfl,rfl⟩
theorem an4 (h2:t.kind≠2) (hy:nameT t ⟨#[121,105,101,108,100]⟩=false) (ha:nameT t ⟨#[97,115,121,110,99]⟩=false) (hp:peekP s 2 p= .ok t (Zs i t g 1 ne ar)) (hs:peekP s 2 (Zs i t g 1 (ne+1) t.from')= .ok t (Zs i t g 1 (ne+1) t.from'))
  (hun:runQ s m (f+1) .unary (Zs i t g 1 (ne+1) t.from')= .ok n (Zs j u 1 1 (ne+1) ar2)) (hk:n.kind≠22) (hu:Cls u) (hv:Sees s 1 t.till v) (hvr:punctT v ⟨#[61,62]⟩=false) (h0:0≤ne) (h1:ne<4000):
  runQ s m (f+5) .assign p= .ok n (Zs j u 1 1 ne ar2):=by
 have e1:runQ s m (f+2) (.operand 1) (Zs i t g 1 (ne+1) t.from')= .ok n (Zs j u 1 1 (ne+1) ar2):=(ag6 (f:=f+1) 1 hs h2).trans hun
 have e2:runQ s m (f+3) (.binary 1 false) (Zs i t g 1 (ne+1) t.from')= .ok n (Zs j u 1 1 (ne+1) ar2):=aj1 (f:=f+1) e1 hk hu.stp
 have e3:runQ s m (f+4) .cond (Zs i t g 1 (ne+1) t.from')= .ok n (Zs j u 1 1 (ne+1) ar2):=am9 (f:=f+3) e2 hk hu.q
 exact ae0 (f:=f+4) hy ha hp hv hvr h0 h1 e3 (ae2 (f:=f+3) hk hu.asg)
end
end
section
open Go.RowKit
section
variable {s:ByteArray}
theorem aj5 {r:List UInt8} : ∀(gap:List UInt8) (p:Nat) (line:Bool),(∀c ∈ gap,c=32∨c=10)→s.data.toList.drop p=gap++r→∃line',btw s p line=btw s (p+gap.length) line'
 | [],p,line,_,_=>⟨line,rfl⟩
 |c::gap,p,line,h,hd=>by
  have hc:=h c (.head _)
  have hlt:=ar5 (c:=c) (l:=gap++r) hd
  have h1:isGap (c::(gap++r))=true:=by
   unfold isGap
   rcases hc with rfl|rfl<;>(rw [nx_ascii _ _ (by decide)];rfl)
  have h2:(nx (c::(gap++r))).2.toNat=1:=by rcases hc with rfl|rfl<;>(rw [nx_ascii _ _ (by decide)];rfl)
  obtain⟨l',e⟩:=aj5 gap (p+1) (line||endsR (nx (c::(gap++r))).1) (fun c hc=>h c (.tail _ hc)) (ao6 hd)
  refine⟨l',?_⟩
  rw [btw_step s p line (by omega),hd,List.cons_append,if_pos h1,h2,e,List.length_cons,show p+1+gap.length=p+(gap.length+1) by omega]
theorem am6 {gap a l:List UInt8} {kind:Int} {p:Nat} (hgap: ∀c ∈ gap,c=32∨c=10) (hd:s.data.toList.drop p=gap++(a++l)) (hp:p≤s.size) (hi:Ink0 (a++l)) (ht: ∀g:Int,g=1∨g=2→plainT g (a++l)= .fine kind a.length):
  ∃t:Tk,t.kind=kind∧t.text=⟨a.toArray⟩∧t.till=((p+gap.length+a.length:Nat):Int)∧∀g:Int,g=1∨g=2→Sees s g p t:=by
 obtain⟨line,hb⟩:=aj5 gap p false hgap hd
 have hq:=ag0 hd
 have hf:=af2 hd hp
 refine⟨⟨kind,⟨a.toArray⟩,((p+gap.length:Nat):Int),((p+gap.length+a.length:Nat):Int),line⟩,rfl,rfl,rfl,fun g hg=> ?_⟩
 refine⟨by omega,by omega,p+gap.length,a.length,?_,?_⟩
 ·rw [Int.toNat_natCast]
  have hb2:btw s p false= .fine (p+gap.length) line []:=hb.trans (af3 hq hf ⟨hi.1,hi.2 _⟩)
  have ht2:=ht g hg
  rw [←hq] at ht2
  unfold nxt tokT
  rcases hg with rfl|rfl<;>
  ·rw [if_neg (by rintro(h|h|⟨h,_⟩)<;>omega),if_neg (by decide),hb2]
   simp only
   rw [if_neg (by decide),if_neg (by decide),if_neg (by decide),ht2]
 ·unfold tkOf
  rw [ac5 hq]
end
section
variable {s:ByteArray} {m:Bool} {i j ne ar ar2:Int} {t u v w b o e:Tk} {n r:Nd} {p:Ps} {f:Nat}
theorem ae7 (h1:t.kind≠1) (h5:t.kind≠5) (hl:runQ s m f .leftHand (Zs i t 2 1 ne ar)= .ok n (Zs j u 1 1 ne ar2)) (h22:n.kind≠22) (hu:Endy u):runQ s m (f+1) .unary (Zs i t 2 1 ne ar)= .ok n (Zs j u 1 1 ne ar2):=by
 show unaryS s (runQ s m f) _=_
 unfold unaryS
 rw [PM.go (aa3 (by decide)),if_neg (by rw [aa5 h1,aa5 h1,aa5 h1,aa2 h5,aa2 h5,aa2 h5,aa2 h5];decide),PM.go (ad6 _),if_neg (by rw [aa5 h1];simp),if_neg (by rw [aa2 h5,aa2 h5];decide),PM.go hl,if_neg h22,PM.go (aa3 (by decide)),if_neg (by rw [hu.inc,hu.dec];simp)]
 rfl
structure Tat (s:ByteArray) (p:Nat) (kind:Int) (x:ByteArray) (l:List UInt8) (p':Nat) (t:Tk):Prop where
 kind:t.kind=kind
 text:t.text=x
 till:t.till=(p':Int)
 sees: ∀g:Int,g=1∨g=2→Sees s g p t
 rest:s.data.toList.drop p'=l
 le:p'≤s.size
theorem ap4 {gap a l:List UInt8} {kind:Int} {p:Nat} (hgap: ∀c ∈ gap,c=32∨c=10) (hd:s.data.toList.drop p=gap++(a++l)) (hp:p≤s.size) (hi:Ink0 (a++l)) (ht: ∀g:Int,g=1∨g=2→plainT g (a++l)= .fine kind a.length):
  ∃p' t,Tat s p kind ⟨a.toArray⟩ l p' t:=by
 obtain⟨t,e1,e2,e3,e4⟩:=am6 hgap hd hp hi ht
 refine⟨_,t,e1,e2,e3,e4,ag0 (ag0 hd),?_⟩
 have h1:=af2 hd hp
 have h2:=af2 (ag0 hd) h1
 exact h2
theorem Tat.seen {g:Int} {k:Int} {x:ByteArray} {p p':Nat} {l:List UInt8} {t':Tk} (h:Tat s p k x l p' t) (hg:g=1∨g=2) (hq:t'.till=(p:Int)):Sees s g t'.till t:=by rw [hq];exact h.sees g hg
theorem Tat.go {k:Int} {x:ByteArray} {p p':Nat} {l:List UInt8} (h:Tat s p k x l p' t):t.till=(p':Int):=h.till
theorem gap0: ∀c ∈ ([]:List UInt8),c=32∨c=10:=by simp
end
end
section
open Go.RowKit
theorem ofl2 (l:List UInt8):(⟨l.toArray⟩:ByteArray).size=l.length:=by
 show l.toArray.size=_
 simp
theorem ak0 {c:UInt8} (l:List UInt8) (h:c.toNat<128) (hp:partC ((c.toNat:Nat):Int)=false):goesP false (c::l)=false∧0≤(nx (c::l)).2:=by
 refine⟨?_,by rw [nx_ascii _ _ h];exact(show(0:Int)≤1 by decide)⟩
 unfold goesP
 rw [nx_ascii _ _ h]
 simp only [hp,Bool.false_and,Bool.or_false,Bool.and_false]
section
variable {s:ByteArray} {m:Bool} {i j ne ar ar2:Int} {t u:Tk} {n:Nd} {f:Nat}
theorem ag5 {c:UInt8} {gap a l:List UInt8} {p:Nat} (hgap: ∀c ∈ gap,c=32∨c=10) (hc:low c) (ha: ∀c ∈ a,low c) (hl:goesP false l=false∧0≤(nx l).2) (hd:s.data.toList.drop p=gap++((c::a)++l)) (hp:p≤s.size): ∃p' t,Tat s p 1 ⟨(c::a).toArray⟩ l p' t:=
 ap4 hgap hd hp (ak6 (by omega) (by omega) (by rintro rfl;exact absurd hc (by decide)) (by rintro rfl;exact absurd hc (by decide))) (fun _ _=>ai5 hc (af9 hc) (fun x hx=>al5 (ha x hx)) hl.1 hl.2)
theorem ad7 (h:Nm t) (hl:runQ s m f .leftHand (Zs i t 2 1 ne ar)= .ok n (Zs j u 1 1 ne ar2)) (h22:n.kind≠22) (hu:Endy u):runQ s m (f+1) .unary (Zs i t 2 1 ne ar)= .ok n (Zs j u 1 1 ne ar2):=by
 show unaryS s (runQ s m f) _=_
 unfold unaryS
 rw [PM.go (aa3 (by decide)),if_neg (by rw [h.nameT (by decide),h.nameT (by decide),h.nameT (by decide),h.punctT,h.punctT,h.punctT,h.punctT];decide),PM.go (ad6 _),if_neg (by rw [ab3 h.aw];simp),if_neg (by rw [h.punctT,h.punctT];decide),PM.go hl,if_neg h22,PM.go (aa3 (by decide)),if_neg (by rw [hu.inc,hu.dec];simp)]
 rfl
end
end
section
open Go.RowKit
def tmI:Nat→List UInt8
 |0=> [36,123,118,125]
 |1=> [97,32,125]
 |2=> [10,36,32]
 |_=> [32,92,96]
def aa4:List Nat→List UInt8
 | []=> [96]
 |k::ks=>tmI k++aa4 ks
def aa0:List Nat→List UInt8 × Option (List Nat)
 | []=>([],none)
 |k::ks=>if k=0 then ([],some ks) else (tmI k++(aa0 ks).1,(aa0 ks).2)
def aa6 (pc:List UInt8):Nd:= .mk 9 ⟨pc.toArray⟩ [] 0 0
def tmK:List UInt8→List Nat→List Nd
 |pc,[]=> [aa6 pc]
 |pc,k::ks=>if k=0 then aa6 pc::idN 118::tmK [] ks else tmK (pc++tmI k) ks
theorem af1 (pc:List UInt8) (k:Nat) (ks:List Nat):tmK pc (k::ks)=if k=0 then aa6 pc::idN 118::tmK [] ks else tmK (pc++tmI k) ks:=rfl
theorem aa8 (k:Nat) (ks:List Nat):aa0 (k::ks)=if k=0 then ([],some ks) else (tmI k++(aa0 ks).1,(aa0 ks).2):=rfl
def tmB (ks:List Nat):Bool:=(aa0 ks).2.isSome
theorem ae4: ∀ {ks r:List Nat},(aa0 ks).2=some r→r.length<ks.length
 | [],_,h=>by cases h
 |k::ks,r,h=>by
  unfold aa0 at h
  rw [List.length_cons]
  split at h
  ·cases h;omega
  ·have:=ae4 (ks:=ks) h
   omega
theorem ah5: ∀(ks:List Nat) (pc:List UInt8),(aa0 ks).2=none→tmK pc ks= [aa6 (pc++(aa0 ks).1)]
 | [],pc,_=>by show [aa6 pc]= [aa6 (pc++ [])];rw [List.append_nil]
 |k::ks,pc,h=>by
  rw [aa8] at h⊢
  rw [af1]
  by_cases hk:k=0
  ·rw [if_pos hk] at h;cases h
  ·rw [if_neg hk] at h⊢
   rw [if_neg hk,ah5 ks _ h,List.append_assoc]
theorem ai0: ∀(ks:List Nat) (pc:List UInt8) {r:List Nat},(aa0 ks).2=some r→tmK pc ks=aa6 (pc++(aa0 ks).1)::idN 118::tmK [] r
 | [],pc,r,h=>by cases h
 |k::ks,pc,r,h=>by
  rw [aa8] at h⊢
  rw [af1]
  by_cases hk:k=0
  ·rw [if_pos hk] at h⊢
   cases h
   rw [if_pos hk,List.append_nil]
  ·rw [if_neg hk] at h⊢
   rw [if_neg hk,ai0 ks _ h,List.append_assoc]
def ah6:Option (List Nat)→List UInt8
 |none=> [96]
 |some r=>36::123::118::125::aa4 r
theorem ad4: ∀ks:List Nat,aa4 ks=(aa0 ks).1++ah6 (aa0 ks).2
 | []=>rfl
 |k::ks=>by
  unfold aa4 aa0
  by_cases hk:k=0
  ·subst hk
   rw [if_pos rfl]
   rfl
  ·rw [if_neg hk]
   show tmI k++aa4 ks=(tmI k++(aa0 ks).1)++ah6 (aa0 ks).2
   rw [ad4 ks,List.append_assoc]
theorem af4 (a b:Nat) (x:TpO):(x.shift a).shift b=x.shift (b+a):=by
 cases x<;>simp [TpO.shift,Nat.add_assoc]
theorem ac6 (c:UInt8) (rest:List UInt8) (h:c.toNat<128) (h1:c≠96) (h2:c≠92) (h3:Lib.hasPrefix (c::rest) [36,123]=false):tpl (c::rest)=(tpl rest).shift 1:=by
 have he:esc (c::rest)=0:=by unfold esc;rw [aa1 h2];rfl
 rw [tpl_step,aa1 h1,h3,he]
 simp only [List.drop_zero,Nat.zero_add,nx_ascii c rest h,Bool.false_eq_true,if_false]
 rfl
theorem ar3 (c:UInt8) (rest:List UInt8) (h:c.toNat<128):tpl (92::c::rest)=(tpl rest).shift 2:=by
 have he:esc (92::c::rest)=1:=rfl
 rw [tpl_step,aa1 (by decide),aa1 (by decide),he]
 simp only [List.drop_succ_cons,List.drop_zero,nx_ascii c rest h,Bool.false_eq_true,if_false]
 rfl
theorem aq0 (k:Nat) (hk:k≠0) (rest:List UInt8):tpl (tmI k++rest)=(tpl rest).shift 3:=by
 have hc:tmI k= [97,32,125]∨tmI k= [10,36,32]∨tmI k= [32,92,96]:=by
  match k with
  |0=>exact absurd rfl hk
  |1=>exact .inl rfl
  |2=>exact .inr (.inl rfl)
  |_+3=>exact .inr (.inr rfl)
 rcases hc with e|e|e
 ·rw [e]
  show tpl (97::32::125::rest)=_
  rw [ac6 97 _ (by decide) (by decide) (by decide) (aa1 (by decide)),ac6 32 _ (by decide) (by decide) (by decide) (aa1 (by decide)),ac6 125 _ (by decide) (by decide) (by decide) (aa1 (by decide)),af4,af4]
 ·rw [e]
  show tpl (10::36::32::rest)=_
  rw [ac6 10 _ (by decide) (by decide) (by decide) (aa1 (by decide)),ac6 36 _ (by decide) (by decide) (by decide) rfl,ac6 32 _ (by decide) (by decide) (by decide) (aa1 (by decide)),af4,af4]
 ·rw [e]
  show tpl (32::92::96::rest)=_
  rw [ac6 32 _ (by decide) (by decide) (by decide) (aa1 (by decide)),ar3 96 _ (by decide),af4]
theorem ao4 {k:Nat} (hk:k≠0):(tmI k).length=3:=by
 match k with
 |0=>exact absurd rfl hk
 |1=>rfl
 |2=>rfl
 |_+3=>rfl
theorem ak4 (rest:List UInt8): ∀ks:List Nat,tpl (aa4 ks++rest)= .fine ((aa0 ks).1.length+(if tmB ks=true then 2 else 1)) (tmB ks)
 | []=>by
  show tpl (96::rest)=_
  rw [tpl_step,if_pos (show Lib.hasPrefix (96::rest) [96]=true from rfl)]
  rfl
 |k::ks=>by
  by_cases hk:k=0
  ·subst hk
   show tpl (36::123::(118::125::(aa4 ks++rest)))=_
   rw [tpl_step,if_neg (by rw [aa1 (by decide)];decide),if_pos (show Lib.hasPrefix (36::123::(118::125::(aa4 ks++rest))) [36,123]=true from rfl)]
   rfl
  ·have e1:(aa0 (k::ks)).1=tmI k++(aa0 ks).1:=by rw [aa8,if_neg hk]
   have e2:tmB (k::ks)=tmB ks:=by unfold tmB;rw [aa8,if_neg hk]
   rw [e1,e2]
   show tpl ((tmI k++aa4 ks)++rest)=_
   rw [List.append_assoc,aq0 k hk,ak4 rest ks]
   show TpO.fine (3+_) _=_
   rw [List.length_append,ao4 hk,Nat.add_assoc]
theorem ab8 {c:UInt8} (h:c≠92) (l:List UInt8):escG (c::l)=escG l:=by
 cases l with
 |nil=>show decide (c≠92)=true;exact decide_eq_true h
 |cons d l=>rw [escG,if_neg h]
theorem ap0 (k:Nat) (hk:k≠0) (l:List UInt8):escG (tmI k++l)=escG l:=by
 match k with
 |0=>exact absurd rfl hk
 |1=>show escG (97::32::125::l)=_;rw [ab8 (by decide),ab8 (by decide),ab8 (by decide)]
 |2=>show escG (10::36::32::l)=_;rw [ab8 (by decide),ab8 (by decide),ab8 (by decide)]
 |_+3=>show escG (32::92::96::l)=_;rw [ab8 (by decide),escG,if_pos rfl];rfl
theorem ac8: ∀ks:List Nat,escG (aa0 ks).1=true
 | []=>rfl
 |k::ks=>by
  rw [aa8]
  by_cases hk:k=0
  ·rw [if_pos hk];rfl
  ·rw [if_neg hk]
   show escG (tmI k++(aa0 ks).1)=true
   rw [ap0 k hk,ac8 ks]
theorem am2 (t:ByteArray) (a b:Nat):(t.extract a b).data.toList=(t.data.toList.drop a).take (b - a):=by
 rw [ByteArray.data_extract,Array.toList_extract,List.extract_eq_take_drop]
structure TmT (s:ByteArray) (p:Nat) (q0:UInt8) (ks:List Nat) (rest:List UInt8) (t:Tk):Prop where
 from':t.from'=(p:Int)
 text:t.text.data.toList=q0::((aa0 ks).1++(if tmB ks=true then [36,123] else [96]))
 till:t.till=((p+t.text.size:Nat):Int)
 kind:if tmB ks=true then t.kind=8∨t.kind=10 else t.kind≠8∧t.kind≠10
 le:p+t.text.size≤s.size
 rest:s.data.toList.drop (p+t.text.size)=(match (aa0 ks).2 with
  |none=>rest
  |some r=>118::125::(aa4 r++rest))
theorem TmT.size {s:ByteArray} {p:Nat} {q0:UInt8} {ks:List Nat} {rest:List UInt8} {t:Tk} (h:TmT s p q0 ks rest t):t.text.size=(aa0 ks).1.length+(if tmB ks=true then 3 else 2):=by
 have e:t.text.size=t.text.data.toList.length:=(ofl _).symm
 rw [e,h.text,List.length_cons,List.length_append]
 split<;>rfl
section
variable {s:ByteArray} {m:Bool} {i j ne ar ar2:Int} {t u v w tk:Tk} {n:Nd}
theorem an0 {p:Nat} {q0:UInt8} {ks:List Nat} {rest:List UInt8} {kind:Int} {line:Bool} (hd:s.data.toList.drop p=q0::(aa4 ks++rest)) (hp:p≤s.size) (hk:if tmB ks=true then kind=8∨kind=10 else kind≠8∧kind≠10):
  TmT s p q0 ks rest (tkOf s kind p (1+((aa0 ks).1.length+(if tmB ks=true then 2 else 1))) line):=by
 have hsp:q0::(aa4 ks++rest)=(q0::((aa0 ks).1++(if tmB ks=true then [36,123] else [96])))++(match (aa0 ks).2 with
  |none=>rest
  |some r=>118::125::(aa4 r++rest)):=by
  rw [ad4 ks]
  unfold tmB
  cases h:(aa0 ks).2 with
  |none=>simp [ah6]
  |some r=>simp [ah6]
 have hlen:1+((aa0 ks).1.length+(if tmB ks=true then 2 else 1))=(q0::((aa0 ks).1++(if tmB ks=true then [36,123] else [96]))).length:=by
  rw [List.length_cons,List.length_append]
  split<;>simp<;>omega
 rw [hsp] at hd
 have h1:=ac5 (s:=s) hd
 have h2:=af2 hd hp
 have h3:=ag0 hd
 unfold tkOf
 rw [hlen,h1]
 have hz:(⟨(q0::((aa0 ks).1++(if tmB ks=true then [36,123] else [96]))).toArray⟩:ByteArray).size=(q0::((aa0 ks).1++(if tmB ks=true then [36,123] else [96]))).length:=ofl2 _
 exact⟨rfl,by simp,by rw [hz],hk,by rw [hz];exact h2,by rw [hz];exact h3⟩
theorem ah8 {g:Int} (hg:g=1∨g=2) {p:Nat} {ks:List Nat} {rest:List UInt8} (hd:s.data.toList.drop p=96::(aa4 ks++rest)) (hp:p≤s.size): ∃t,Sees s g p t∧TmT s p 96 ks rest t∧(t.kind=7∨t.kind=8):=by
 have hpl:plainT g (96::(aa4 ks++rest))= .fine (if tmB ks=true then 8 else 7) (1+((aa0 ks).1.length+(if tmB ks=true then 2 else 1))):=by
  unfold plainT
  rw [if_neg (by simp),if_pos (show Lib.hasPrefix (96::(aa4 ks++rest)) [96]=true from rfl)]
  show tpTk 8 7 (tpl (aa4 ks++rest))=_
  rw [ak4]
  rfl
 have hb:btw s p false= .fine p false []:=af3 hd hp ⟨rfl,by unfold cmKind;rw [if_neg (by rw [aa1 (by decide)];decide),if_neg (by rw [aa1 (by decide)];decide),if_neg (by rw [aa1 (by decide)];simp)]⟩
 have hn:=ai7 hg hb (by rw [hd];exact hpl)
 have hk:if tmB ks=true then (if tmB ks=true then (8:Int) else 7)=8∨(if tmB ks=true then (8:Int) else 7)=10 else (if tmB ks=true then (8:Int) else 7)≠8∧(if tmB ks=true then (8:Int) else 7)≠10:=by
  cases tmB ks<;>decide
 have ht:=an0 (line:=false) hd hp hk
 refine⟨_,⟨by omega,by omega,p,(1+((aa0 ks).1.length+(if tmB ks=true then 2 else 1))),?_,rfl⟩,ht,?_⟩
 ·rw [Int.toNat_natCast];exact hn
 ·show(if tmB ks=true then (8:Int) else 7)=7∨(if tmB ks=true then (8:Int) else 7)=(8:Int)
  cases tmB ks<;>decide
theorem ao1 {p:Nat} {ks:List Nat} {rest:List UInt8} (hd:s.data.toList.drop p=125::(aa4 ks++rest)) (hp:p≤s.size): ∃t,Sees s 3 p t∧TmT s p 125 ks rest t:=by
 have hpl:tailT (125::(aa4 ks++rest))= .fine (if tmB ks=true then 10 else 9) (1+((aa0 ks).1.length+(if tmB ks=true then 2 else 1))):=by
  unfold tailT
  show tpTk 10 9 (tpl (aa4 ks++rest))=_
  rw [ak4]
  rfl
 have hn:nxt s p 3= .fine (if tmB ks=true then 10 else 9) p (1+((aa0 ks).1.length+(if tmB ks=true then 2 else 1))) false []:=by
  unfold nxt
  rw [if_neg (by rw [hd];rintro(h|h|⟨_,h⟩);exact absurd h (by decide);exact absurd h (by decide);exact h rfl),if_pos (.inl rfl)]
  simp only
  unfold tokT
  rw [if_pos rfl,hd,hpl]
 have hk:if tmB ks=true then (if tmB ks=true then (10:Int) else 9)=8∨(if tmB ks=true then (10:Int) else 9)=10 else (if tmB ks=true then (10:Int) else 9)≠8∧(if tmB ks=true then (10:Int) else 9)≠10:=by
  cases tmB ks<;>decide
 have ht:=an0 (line:=false) hd hp hk
 refine⟨_,⟨by omega,by omega,p,(1+((aa0 ks).1.length+(if tmB ks=true then 2 else 1))),?_,rfl⟩,ht⟩
 rw [Int.toNat_natCast];exact hn
theorem aj6 (h:Opn 125 u):Cls u:=by
 have hk:=h.kind
 exact⟨⟨.inr (by rw [h.text];decide),⟨h.no (by decide),h.no (by decide),h.no (by decide),h.no (by decide),by omega,by omega,h.no (by decide),h.no (by decide)⟩⟩,h.no (by decide),by unfold assigningT;rw [h.text];rw [Bool.and_eq_false_iff];right;decide,h.no (by decide),h.no (by decide)⟩
theorem TmT.cut {p:Nat} {q0:UInt8} {ks:List Nat} {rest:List UInt8} (h:TmT s p q0 ks rest t):t.text.extract 1 (t.text.size - (if tmB ks=true then 2 else 1))=⟨(aa0 ks).1.toArray⟩:=by
 refine(byteArray_ext _ _ ?_).symm
 rw [am2,h.text,h.size]
 show((aa0 ks).1++_).take _=_
 have e:(aa0 ks).1.length+(if tmB ks=true then 3 else 2) - (if tmB ks=true then 2 else 1) - 1=(aa0 ks).1.length:=by
  split<;>omega
 rw [e,List.take_left]
theorem ah3 (F:Nat) {rest:List UInt8} (from':Int) (h0:0≤ne) (h9:ne<3990):
  ∀(N:Nat) (ks:List Nat),ks.length≤N→∀(kids:List Nd) (g p:Nat) (i gl ar:Int) (q0:UInt8) (t:Tk),ks.length<g→TmT s p q0 ks rest t→s.size≤16777216→kids.length+2*ks.length≤4194304→
   ∃l p' u ar2,ad5 s (runQ s m (F+12)) from' g kids t (Zs i t gl 1 ne ar)= .ok (.mk 8 ⟨#[]⟩ (kids++l) from' ((p':Nat):Int)) (Zs ((p':Nat):Int) u 0 1 ne ar2)∧s.data.toList.drop p'=rest∧p'≤s.size∧bareNds l=tmK [] ks∧noProps l=true∧ndSizes l≤2*ks.length+1
 |N,ks,hN,kids,g,p,i,gl,ar,q0,t,hg,ht,hsz,hkl=>by
  obtain⟨g,rfl⟩: ∃g',g=g'+1:=⟨g - 1,by omega⟩
  have hk:=ht.kind
  have hz:=ht.size
  have hcut:=ht.cut
  have hle:=ht.le
  have hrest:=ht.rest
  have htill:=ht.till
  cases ho:(aa0 ks).2 with
  |none=>
   have hB:tmB ks=false:=by unfold tmB;rw [ho];rfl
   rw [hB] at hk hz hcut
   rw [ho] at hrest
   simp only [Bool.false_eq_true,if_false] at hk hz hcut hrest
   have hnot: ¬(t.text.size<2∨16777216<t.text.size∨escG (t.text.extract 1 (t.text.size - 1)).data.toList=false):=by
    rintro(h|h|h)
    ·omega
    ·omega
    ·rw [hcut,show(⟨(aa0 ks).1.toArray⟩:ByteArray).data.toList=(aa0 ks).1 by simp,ac8] at h;cases h
   unfold ad5
   rw [if_neg (show¬4194304<kids.length by omega),if_neg (fun h=>h.elim hk.1 hk.2),if_neg hnot,PM.go al2]
   refine⟨[aa9 t 1],p+t.text.size,t,ar,?_,hrest,hle,?_,rfl,Nat.le_add_left _ _⟩
   ·rw [htill];rfl
   ·unfold aa9
    rw [hcut,bareNds,bareNds,bareNd,if_neg (by decide),bareNds,ah5 ks [] ho,List.nil_append]
    rfl
  |some r=>
   have hB:tmB ks=true:=by unfold tmB;rw [ho];rfl
   rw [hB] at hk hz hcut
   rw [ho] at hrest
   simp only [if_true] at hk hz hcut hrest
   have hr:=ae4 ho
   cases N with
   |zero=>omega
   |succ N=>
    obtain⟨p1,v,hv⟩:=ag5 (s:=s) (p:=p+t.text.size) (gap:= []) (c:=118) (a:= []) (l:=125::(aa4 r++rest)) gap0 (by decide) (by simp) (ak0 _ (by decide) (by kernel_rfl)) (by rw [hrest];rfl) hle
    obtain⟨c,hc,hcs,hcf⟩: ∃c:Tk,Opn 125 c∧(∀g:Int,g=1∨g=2→Sees s g p1 c)∧c.from'=((p1:Nat):Int):=⟨⟨5,⟨[125].toArray⟩,((p1:Nat):Int),((p1+1:Nat):Int),false⟩,⟨rfl,rfl⟩,fun g hg=>al9 hg (a:= [125]) hv.rest hv.le (ak6 (by decide) (by decide) (by decide) (by decide)) (ag4 (by decide) (by decide) ((ap5 (by decide)).trans rfl) (show(1:Nat)≠0 by decide)),rfl⟩
    have hnm:Nm v:=⟨hv.kind,by rw [hv.text];decide,by rw [hv.text];decide,by rw [hv.text];decide,by unfold ad9;rw [hv.text];exact aa1 (by decide)⟩
    have hcl:=aj6 hc
    have hcv:Sees s 1 v.till c:=by rw [hv.till];exact hcs 1 (.inl rfl)
    have hin:runQ s m (F+12) .inner (Zs t.till t 0 1 ne ar)= .ok (leafN 1 v) (Zs v.till c 1 1 ne v.from'):=by
     show innerS (runQ s m (F+11)) _=_
     unfold innerS
     exact aq5 (ab5 (f:=F+10) (aj3 (F+1) hnm (.inr rfl) (ab0 (hv.seen (.inr rfl) htill)) hcv hcl.stp hcl.q hcl.asg hcl.arr h0 (by omega)) hcl.com)
    obtain⟨w,hw,hwt⟩:=ao1 (s:=s) (p:=p1) (ks:=r) (rest:=rest) (by rw [hv.rest]) hv.le
    obtain⟨l,p',u,ar2,r1,r2,r3,r4,r5,r6⟩:=ah3 F from' h0 h9 N r (by omega) ((kids++ [aa9 t 2])++ [leafN 1 v]) g p1 ((p1:Nat):Int) 3 v.from' 125 w (by omega) hwt hsz (by simp;omega)
    refine⟨aa9 t 2::leafN 1 v::l,p',u,ar2,?_,r2,r3,?_,?_,?_⟩
    ·have hnot: ¬(t.text.size<3∨16777216<t.text.size∨escG (t.text.extract 1 (t.text.size - 2)).data.toList=false):=by
      rintro(h|h|h)
      ·omega
      ·omega
      ·rw [hcut,show(⟨(aa0 ks).1.toArray⟩:ByteArray).data.toList=(aa0 ks).1 by simp,ac8] at h;cases h
     unfold ad5
     rw [if_neg (show¬4194304<kids.length by omega),if_pos hk,if_neg hnot,PM.go al2,PM.go hin,PM.go (aa3 (by decide)),if_pos hc.yes,PM.go (ad6 _),if_neg (show¬(Zs v.till c 1 1 ne v.from').ahead.isEmpty=false from fun h=>by cases h)]
     have hm2:modP (fun q=> { q with at':=q.tok.from',goal:=0 }) (Zs v.till c 1 1 ne v.from')= .ok () (Zs ((p1:Nat):Int) c 0 1 ne v.from'):=by
      show Res.ok () ({ Zs v.till c 1 1 ne v.from' with at':=c.from',goal:=0 } :Ps)=_
      rw [hcf]
      rfl
     rw [PM.go hm2,PM.go (ab0 hw),PM.go (ad6 _),if_neg (show¬(Zs ((p1:Nat):Int) w 3 1 ne v.from').ahead.isEmpty=false from fun h=>by cases h),r1]
     simp only [List.append_assoc,List.cons_append,List.nil_append]
    ·rw [bareNds,bareNds,r4,ai0 ks [] ho,List.nil_append]
     have e1:bareNd (aa9 t 2)=aa6 (aa0 ks).1:=by
      unfold aa9
      rw [hcut,bareNd,if_neg (by decide),bareNds]
      rfl
     rw [e1,ag2 v hv.text]
    ·show(noProp (aa9 t 2) && (noProp (leafN 1 v) && noProps l))=true
     rw [r5]
     rfl
    ·show ndSize (aa9 t 2)+(ndSize (leafN 1 v)+ndSizes l)≤_
     rw [show ndSize (aa9 t 2)=1 from rfl,show ndSize (leafN 1 v)=1 from rfl]
     omega
theorem an7 (b:Bool) (hk:t.kind=7∨t.kind=8) {p:Ps} {f:Nat} :runQ s m (f+2) (.base t b) p=runQ s m f (.template false) p:=by
 have h1:t.kind≠1:=by omega
 show baseS s m (runQ s m (f+1)) t b _=_
 unfold baseS
 rw [if_neg (by rw [aa5 h1];decide),if_neg (by rw [aa5 h1];decide),if_neg (by rw [aa5 h1];decide)]
 show primaryS (runQ s m f) t _=_
 unfold primaryS
 rw [if_neg (by omega),if_neg (by omega),if_pos hk]
theorem an8 (F:Nat) {rest:List UInt8} {ks:List Nat} {p:Nat} (h0:0≤ne) (h9:ne<3990) (hl:ks.length<F+12) (hl30:ks.length≤30) (hk:t.kind=7∨t.kind=8) (ht:TmT s p 96 ks rest t) (hsz:s.size≤16777216) (hu: ∀q:Nat,s.data.toList.drop q=rest→q≤s.size→∃u,Sees s 1 q u∧Cls u∧u.kind=0):
  ∃l p' u ar2,runQ s m (F+16) .leftHand (Zs i t 2 1 ne ar)= .ok (.mk 8 ⟨#[]⟩ l t.from' ((p':Nat):Int)) (Zs ((p':Nat):Int) u 1 1 ne ar2)∧u.kind=0∧Cls u∧bareNds l=tmK [] ks∧noProps l=true∧ndSizes l≤2*ks.length+1:=by
 obtain⟨l,p',w,ar2,r1,r2,r3,r4,r5,r6⟩:=ah3 (s:=s) (m:=m) (ne:=ne) F t.from' h0 h9 ks.length ks (Nat.le_refl _) [] (F+12) p i 2 ar 96 t hl ht hsz (by show 0+2*ks.length≤4194304;omega)
 obtain⟨u,hs,hc,hk0⟩:=hu p' r2 r3
 have he:=hc.stp.e
 refine⟨l,p',u,ar2,?_,hk0,hc,r4,r5,r6⟩
 have htp:runQ s m (F+13) (.template false) (Zs i t 2 1 ne ar)= .ok (.mk 8 ⟨#[]⟩ l t.from' ((p':Nat):Int)) (Zs ((p':Nat):Int) w 0 1 ne ar2):=r1
 have hk22: ¬(Nd.mk 8 ⟨#[]⟩ l t.from' ((p':Nat):Int)).kind=22:=show¬(8:Int)=22 by decide
 have hk1:decide ((Nd.mk 8 ⟨#[]⟩ l t.from' ((p':Nat):Int)).kind=1)=false:=rfl
 show leftHandS s (F+15) (runQ s m (F+15)) _=_
 unfold leftHandS
 rw [PM.go (aa3 (by decide)),PM.go (ad6 _)]
 show(runQ s m (F+15) (.base t true)>>=_) _=_
 rw [PM.go ((an7 true hk (f:=F+13)).trans htp),if_neg hk22,if_neg (by rw [hk1];simp)]
 unfold leftHandS.linkL
 rw [PM.go (ab0 hs),if_neg (by rw [he.opt];decide),PM.go (ah1 (F+14) _ true true he (aa3 (by decide))),if_neg (show¬((false:Bool)=true) by decide)]
 rfl
theorem al6 (F:Nat) {rest:List UInt8} {ks:List Nat} {p:Nat} (h0:0≤ne) (h9:ne<3990) (hl:ks.length<F+13) (hl30:ks.length≤30) (hb:Nm v) (hbt:Sees s 1 v.till t) (hk:t.kind=7∨t.kind=8) (ht:TmT s p 96 ks rest t) (hsz:s.size≤16777216) (hu: ∀q:Nat,s.data.toList.drop q=rest→q≤s.size→∃u,Sees s 1 q u∧Cls u∧u.kind=0):
  ∃l p' u ar2,runQ s m (F+16) .leftHand (Zs i v 2 1 ne ar)= .ok (.mk 10 ⟨#[]⟩ [leafN 1 v,.mk 8 ⟨#[]⟩ l t.from' ((p':Nat):Int)] v.from' ((p':Nat):Int)) (Zs ((p':Nat):Int) u 1 1 ne ar2)∧u.kind=0∧Cls u∧bareNds l=tmK [] ks∧noProps l=true∧ndSizes l≤2*ks.length+1:=by
 obtain⟨l,p',w,ar2,r1,r2,r3,r4,r5,r6⟩:=ah3 (s:=s) (m:=m) (ne:=ne) (F+1) t.from' h0 h9 ks.length ks (Nat.le_refl _) [] (F+13) p v.till 1 ar 96 t hl ht hsz (by show 0+2*ks.length≤4194304;omega)
 obtain⟨u,hs,hc,hk0⟩:=hu p' r2 r3
 have he:=hc.stp.e
 refine⟨l,p',u,ar2,?_,hk0,hc,r4,r5,r6⟩
 have htp:runQ s m (F+14) (.template true) (Zs v.till t 1 1 ne ar)= .ok (.mk 8 ⟨#[]⟩ l t.from' ((p':Nat):Int)) (Zs ((p':Nat):Int) w 0 1 ne ar2):=r1
 have hn5:t.kind≠5:=by omega
 have hlk:runQ s m (F+15) (.link (leafN 1 v) true true) (Zs v.till t 1 1 ne ar)= .ok (.mk 10 ⟨#[]⟩ [leafN 1 v,.mk 8 ⟨#[]⟩ l t.from' ((p':Nat):Int)] v.from' ((p':Nat):Int),true) (Zs ((p':Nat):Int) w 0 1 ne ar2):=by
  show linkS s (runQ s m (F+14)) _ true true _=_
  unfold linkS
  rw [PM.go (aa3 (by decide)),if_neg (by rw [aa2 hn5];decide),if_neg (by rw [aa2 hn5];decide),if_neg (by rw [aa2 hn5];simp),if_pos hk,if_pos rfl,PM.go htp]
  rfl
 show leftHandS s (F+15) (runQ s m (F+15)) _=_
 unfold leftHandS
 rw [PM.go (aa3 (by decide)),PM.go (ad6 _)]
 show(runQ s m (F+15) (.base v true)>>=_) _=_
 rw [PM.go (an5 (F+12) hb (.inr rfl) true),if_neg (ae1 v),if_neg (by rw [show decide ((leafN 1 v).text=⟨#[97,115,121,110,99]⟩)=false from decide_eq_false hb.asy];simp)]
 unfold leftHandS.linkL
 rw [PM.go (ab0 hbt),if_neg (by rw [aa2 hn5];decide),PM.go hlk,if_pos rfl]
 unfold leftHandS.linkL
 rw [PM.go (ab0 hs),if_neg (by rw [he.opt];decide),PM.go (ah1 (F+14) _ true true he (aa3 (by decide))),if_neg (show¬((false:Bool)=true) by decide)]
 rfl
theorem aj4 {p:Nat} {q0:UInt8} {ks:List Nat} (ht:TmT s p q0 ks [] t): ∃v,Sees s 1 t.till v∧punctT v ⟨#[61,62]⟩=false:=by
 have hrest:=ht.rest
 rw [ht.till]
 cases ho:(aa0 ks).2 with
 |none=>
  rw [ho] at hrest
  exact⟨_,ah9 (.inl rfl) hrest ht.le,(ak7 _).arr⟩
 |some r=>
  rw [ho] at hrest
  obtain⟨p1,v,hv⟩:=ag5 (s:=s) (p:=p+t.text.size) (gap:= []) (c:=118) (a:= []) (l:=125::(aa4 r++ [])) gap0 (by decide) (by simp) (ak0 _ (by decide) (by kernel_rfl)) (by rw [hrest];rfl) ht.le
  exact⟨v,hv.sees 1 (.inl rfl),aa2 (by rw [hv.kind];decide)⟩
theorem am8: ∀q:Nat,s.data.toList.drop q= []→q≤s.size→∃u,Sees s 1 q u∧Cls u∧u.kind=0:=fun _ h1 h2=>⟨_,ah9 (.inl rfl) h1 h2,ak7 _,rfl⟩
theorem ao7 (F:Nat) {ks:List Nat} (hl:ks.length≤30) (hF:20≤F) (hd:s.data.toList=96::aa4 ks) (hsz:s.size≤16777216):
  ∃n q,ad0 s false (F+22)= .ok n q∧bareNd n= .mk 8 ⟨#[]⟩ (tmK [] ks) 0 0∧ndSize n≤2*ks.length+2:=by
 have hd0:s.data.toList.drop 0=96::(aa4 ks++ []):=by rw [List.drop_zero,List.append_nil,hd]
 obtain⟨t,h2,ht,hk⟩:=ah8 (s:=s) (g:=2) (.inr rfl) hd0 (Nat.zero_le _)
 obtain⟨v,hv,hva⟩:=aj4 ht
 obtain⟨l,p',u,ar2,r1,r2,r3,r4,r5,r6⟩:=an8 (s:=s) (m:=false) (i:=0) (ne:=0+1) (ar:=t.from') F (by decide) (by decide) (by omega) hl hk ht hsz am8
 have hk22: ¬(Nd.mk 8 ⟨#[]⟩ l t.from' ((p':Nat):Int)).kind=22:=show¬(8:Int)=22 by decide
 have hu:=ae7 (by omega) (by omega) r1 hk22 r3.stp.e
 have ha:runQ s false (F+21) .assign (ps0 false)= .ok _ _:=an4 (f:=F+16) (ne:=0) (g:=2) (p:=Zs 0 Tk.zero 0 1 0 (-1)) (by omega) (aa5 (by omega)) (aa5 (by omega)) (ab0 h2) (aa3 (by decide)) hu hk22 r3 hv hva (by decide) (by decide)
 have hz:ndSize (Nd.mk 8 ⟨#[]⟩ l t.from' ((p':Nat):Int))=1+ndSizes l:=rfl
 refine⟨_,_,an2 (ab5 (f:=F+21) ha r3.com) r2 (show(true && noProps l)=true by rw [r5];rfl) (by omega),?_,by omega⟩
 rw [bareNd,if_neg (by decide),r4]
theorem al7 (F:Nat) {ks:List Nat} (hl:ks.length≤30) (hF:20≤F) (hd:s.data.toList=102::96::aa4 ks) (hsz:s.size≤16777216):
  ∃n q,ad0 s false (F+22)= .ok n q∧bareNd n= .mk 10 ⟨#[]⟩ [idN 102,.mk 8 ⟨#[]⟩ (tmK [] ks) 0 0] 0 0∧ndSize n≤2*ks.length+4:=by
 obtain⟨p1,v,hv⟩:=ag5 (s:=s) (p:=0) (gap:= []) (c:=102) (a:= []) (l:=96::(aa4 ks++ [])) gap0 (by decide) (by simp) (ak0 _ (by decide) (by kernel_rfl)) (by rw [List.drop_zero,hd,List.append_nil];rfl) (Nat.zero_le _)
 have hnm:Nm v:=⟨hv.kind,by rw [hv.text];decide,by rw [hv.text];decide,by rw [hv.text];decide,by unfold ad9;rw [hv.text];exact aa1 (by decide)⟩
 obtain⟨t,h1,ht,hk⟩:=ah8 (s:=s) (g:=1) (.inl rfl) hv.rest hv.le
 have hvt:Sees s 1 v.till t:=by rw [hv.till];exact h1
 obtain⟨l,p',u,ar2,r1,r2,r3,r4,r5,r6⟩:=al6 (s:=s) (m:=false) (i:=0) (ne:=0+1) (ar:=v.from') F (by decide) (by decide) (by omega) hl hnm hvt hk ht hsz am8
 have hk22: ¬(Nd.mk 10 ⟨#[]⟩ [leafN 1 v,.mk 8 ⟨#[]⟩ l t.from' ((p':Nat):Int)] v.from' ((p':Nat):Int)).kind=22:=show¬(10:Int)=22 by decide
 have hu:=ad7 hnm r1 hk22 r3.stp.e
 have ha:runQ s false (F+21) .assign (ps0 false)= .ok _ _:=an4 (f:=F+16) (ne:=0) (g:=2) (p:=Zs 0 Tk.zero 0 1 0 (-1)) (by rw [hv.kind];decide) (ab3 (by rw [hv.text];decide)) (ab3 (by rw [hv.text];decide)) (ab0 (hv.sees 2 (.inr rfl))) (aa3 (by decide)) hu hk22 r3 hvt (aa2 (by omega)) (by decide) (by decide)
 have hz:ndSize (Nd.mk 10 ⟨#[]⟩ [leafN 1 v,.mk 8 ⟨#[]⟩ l t.from' ((p':Nat):Int)] v.from' ((p':Nat):Int))=3+ndSizes l:=by simp only [ndSize,ndSizes,leafN];omega
 refine⟨_,_,an2 (ab5 (f:=F+21) ha r3.com) r2 (by simp [noProp,noProps,leafN,r5]) (by omega),?_,by omega⟩
 have e8:bareNd (.mk 8 ⟨#[]⟩ l t.from' ((p':Nat):Int))= .mk 8 ⟨#[]⟩ (tmK [] ks) 0 0:=by rw [bareNd,if_neg (by decide),r4]
 rw [bareNd,if_neg (by decide),bareNds,bareNds,bareNds,e8,ag2 v hv.text]
end
end
section
open Go.RowKit
theorem am1 (b:Nat) (s:ByteArray) (p:Nat) (line:Bool) (fl:Int) (w:World) (hx:RdAt w b s ⟨p,line,fl,0⟩) (hr:Ready b w) (hs:s.size≤16777216) (hp:p<s.size):
  Calls Tryz.prog 54 #[.pointer (some ⟨b,0,none⟩)] w fun e w'=>TkP b s p line fl w (tailT (s.data.toList.drop p)) e w':=by
 have ht:=template_any b s p line fl w hx hr hs hp
 have hT:tailT (s.data.toList.drop p)=tpTk 10 9 (tpl (s.data.toList.drop (p+1))):=by unfold tailT;rw [List.drop_drop]
 generalize tailT (s.data.toList.drop p)=O at*
 cases hO:tpl (s.data.toList.drop (p+1)) with
 |fine n h=>
  rw [hO] at ht hT
  simp only [TpPost] at ht
  have HT:=Lib.hid ht
  have HN:=Lib.hid hT
  clear ht hT hO hx hr
  cases h with
  |true=>
   go_enter Tryz.func54,Tryz.ntmps54
   go_wp2_with (go_at_call 91;refine HT.out.mono ?_;rintro e w9 ⟨rfl,hst⟩)
   go_ret2
   rw [HN.out]
   exact⟨rfl,by rw [←Nat.add_assoc];exact hst⟩
  |false=>
   go_enter Tryz.func54,Tryz.ntmps54
   go_wp2_with (go_at_call 91;refine HT.out.mono ?_;rintro e w9 ⟨rfl,hst⟩)
   go_ret2
   rw [HN.out]
   exact⟨rfl,by rw [←Nat.add_assoc];exact hst⟩
 |bad off code=>
  rw [hO] at ht hT
  simp only [TpPost] at ht
  have HT:=Lib.hid ht
  have HN:=Lib.hid hT
  clear ht hT hO hx hr
  go_enter Tryz.func54,Tryz.ntmps54
  go_wp2_with (go_at_call 91;refine HT.out.mono ?_;rintro e w9 ⟨x',rfl,hst,hl,hf,hc⟩)
  go_ret2
  rw [HN.out]
  exact⟨x',_,rfl,hst,hl,hf.trans (tpPlace_eq p off code),hc⟩
theorem aq1 (s:ByteArray) (p:Nat) (h:p<s.size):Lib.hasPrefix (s.data.toList.drop p) [125]=(s[p]==125):=hp1 s p 125 h
theorem ak5 (s:ByteArray) (p:Nat) (goal:Int) (w:World) (hp:p≤s.size) (h:goal<1∨5<goal∨(goal=3∧¬Lib.hasPrefix (s.data.toList.drop p) [125]=true)):
  Calls Tryz.prog 39 #[.string s,.int .i64 p,.int .i64 goal] w fun e w'=>NxPost s w (.bad 0 501) e w':=by
 have hk:=tk_new w
 have hb:Below w.heap.size w (w.alloc (.cells Tk.zero.cells 54)):=Below.alloc (Below.refl _ w) (Nat.le_refl _) _
 unfold Tk.zero Tk.cells at hk hb
 simp only at hk hb
 by_cases h0:goal<1
 ·clear h
  go_enter Tryz.func39,Tryz.ntmps39
  go_upto_region 4 with fail
  generalize w.alloc (.cells #[.int .i64 0,.string ⟨#[]⟩,.int .i64 0,.int .i64 0,.bool false] 54)=w1 at*
  obtain⟨z0,z1,z2,z3,z4,y0,y1,y2,y3,y4⟩:=TkAt.facts hk
  go_wp2_with fail
  (try simp only [Exit.inBlock,Exit.then])
  refine bodyPost_ret (results_tk4 rfl _ _ _ _ rfl (TkAt.lay hk)) rfl ?_
  exact⟨rfl,below_lay5 hb (Nat.le_refl _)⟩
 ·by_cases h1:5<goal
  ·clear h
   go_enter Tryz.func39,Tryz.ntmps39
   go_upto_region 4 with fail
   generalize w.alloc (.cells #[.int .i64 0,.string ⟨#[]⟩,.int .i64 0,.int .i64 0,.bool false] 54)=w1 at*
   obtain⟨z0,z1,z2,z3,z4,y0,y1,y2,y3,y4⟩:=TkAt.facts hk
   go_wp2_with fail
   (try simp only [Exit.inBlock,Exit.then])
   refine bodyPost_ret (results_tk4 rfl _ _ _ _ rfl (TkAt.lay hk)) rfl ?_
   exact⟨rfl,below_lay5 hb (Nat.le_refl _)⟩
  ·have h2:goal=3∧¬Lib.hasPrefix (s.data.toList.drop p) [125]=true:=by
    rcases h with h|h|h
    ·exact absurd h h0
    ·exact absurd h h1
    ·exact h
   obtain⟨rfl,h3⟩:=h2
   by_cases hlt:p<s.size
   ·rw [aq1 s p hlt] at h3
    have h4:s[p]≠125:=fun e=>h3 (by rw [e];rfl)
    have b0:(((p:Nat):Int)==((s.size:Nat):Int))=false:=by rw [beq_eq_false_iff_ne];omega
    have b1:(((s[p].toNat:Nat):Int) !=125)=true:=by rw [bne_iff_ne];exact fun e=>h4 (UInt8.toNat.inj (by rw [show s[p].toNat=125 by omega];rfl))
    clear h h3 h4
    go_enter Tryz.func39,Tryz.ntmps39
    go_upto_region 4 with fail
    generalize w.alloc (.cells #[.int .i64 0,.string ⟨#[]⟩,.int .i64 0,.int .i64 0,.bool false] 54)=w1 at*
    obtain⟨z0,z1,z2,z3,z4,y0,y1,y2,y3,y4⟩:=TkAt.facts hk
    go_wp2_with fail
    (try simp only [Exit.inBlock,Exit.then])
    refine bodyPost_ret (results_tk4 rfl _ _ _ _ rfl (TkAt.lay hk)) rfl ?_
    exact⟨rfl,below_lay5 hb (Nat.le_refl _)⟩
   ·have b0:(((p:Nat):Int)==((s.size:Nat):Int))=true:=by rw [beq_iff_eq];omega
    clear h h3
    go_enter Tryz.func39,Tryz.ntmps39
    go_upto_region 4 with fail
    generalize w.alloc (.cells #[.int .i64 0,.string ⟨#[]⟩,.int .i64 0,.int .i64 0,.bool false] 54)=w1 at*
    obtain⟨z0,z1,z2,z3,z4,y0,y1,y2,y3,y4⟩:=TkAt.facts hk
    go_wp2_with fail
    (try simp only [Exit.inBlock,Exit.then])
    refine bodyPost_ret (results_tk4 rfl _ _ _ _ rfl (TkAt.lay hk)) rfl ?_
    exact⟨rfl,below_lay5 hb (Nat.le_refl _)⟩
attribute [local go_sem] fld_tk0 fld_tk1 fld_tk2 fld_tk3 fld_tk4 mk_func
attribute [local go_sem ↓] Go.wp_at_zero Go.wp_at_succ
section
variable {E:PE} {F0 F X:Nat→Prop} {w0 w W:World} {q:Ps} {bs:List Box} {ns:List Kd} {ro:Option (Value × List Kd)}
theorem Sb.setW (h:Sb E F0 X w0 F w q bs ns ro) (i:Nat) {g:Nat} {b b':Bx} (hb:nth bs i=some (g,true,b)) (ho:Only (fun k=>k=g) w W) (hat:BxAt W g b'):Sb E F0 X w0 F W q (setAt bs i (g,true,b')) ns ro:=by
 have hbx:=h.bx _ (nth_mem hb)
 have hF:F g:=hbx.1
 have hx:=hbx.2.2 rfl
 have hm:Only (Mine F X w0) w W:=ho.mono fun k hk=>by subst hk;exact⟨hF,hx⟩
 refine⟨h.s.only (hm.mono fun _ h=>h.1),h.p.adv h.s hm,h.le,h.f0,fun z hz=> ?_,setAt_pair h.nd hb,fun x hx=>(h.n x hx).only (hm.mono fun _ h=>h.1) h.s.lt h.s.notF,fun v l e=> ?_⟩
 ·rcases setAt_mem bne_symm h.nd hb hz with rfl|⟨h1,h2⟩
  ·exact⟨hF,hat,fun _=>hx⟩
  ·obtain⟨a1,a2,a3⟩:=h.bx z h1
   exact⟨a1,a2.same (ho.block _ a2.lt fun e=>h2 e.symm),a3⟩
 ·obtain⟨base,a1,a2,a3,a4⟩:=h.r v l e
  refine⟨base,a1,Nat.le_trans a2 ho.size,a3.only h.s (ho.mono fun k hk=>by rw [show k=g from hk];exact⟨hF,a4 (g,true,b) (nth_mem hb)⟩),fun z hz=> ?_⟩
  rcases setAt_mem bne_symm h.nd hb hz with rfl|⟨h1,h2⟩
  ·exact a4 (g,true,b) (nth_mem hb)
  ·exact a4 z h1
theorem Sa.dir3 (h:Sa E F0 X w0 w q bs ns ro) (i:Nat) {g:Nat} {n:Nd} {a:Option Addr} {c:Nat} (hb:nth bs i=some (g,true,.nd n a c)) (t:ByteArray):
  ∃W,((w.setCell ⟨g,0,none⟩ (.int .i64 78)).setCell ⟨g,1,none⟩ (.string t)).setCell ⟨g,2,none⟩ (.slice none 0 0)=W∧Hid (Sa E F0 X w0 W q (setAt bs i (g,true,.nd (.mk 78 t [] n.from' n.till) none 0)) ((.mk 78 t [] n.from' n.till,none,0)::ns) ro):=by
 obtain⟨F,h⟩:=h
 refine⟨_,rfl,F,?_⟩
 have hat:w.heap[g]? =some (.cells #[.int .i64 n.kind,.string n.text,.slice a n.kids.length c,.int .i64 n.from',.int .i64 n.till] 31 (0,0)):=(h.bx _ (nth_mem hb)).2.1
 have e0:=heap_setCell_same _ g 0 _ _ (.int .i64 78) hat
 have e1:=heap_setCell_same _ g 1 _ _ (.string t) e0
 have e2:=heap_setCell_same _ g 2 _ _ (.slice none 0 0) e1
 have e3:(((w.setCell ⟨g,0,none⟩ (.int .i64 78)).setCell ⟨g,1,none⟩ (.string t)).setCell ⟨g,2,none⟩ (.slice none 0 0)).heap[g]? =some (.cells #[.int .i64 78,.string t,.slice none 0 0,.int .i64 n.from',.int .i64 n.till] 31 (0,0)):=by simpa using e2
 refine(h.setW (b':= .nd (.mk 78 t [] n.from' n.till) none 0) i hb (Only.setCell (X:=fun k=>k=g) (Only.setCell (X:=fun k=>k=g) (Only.setCell (X:=fun k=>k=g) (Only.refl _ _) (p:=⟨g,0,none⟩) (.inl rfl) _) (p:=⟨g,1,none⟩) (.inl rfl) _) (p:=⟨g,2,none⟩) (.inl rfl) _) e3).node ?_
 exact⟨none,0,rfl,Nat.le_refl _,RowS_nil _ _ _ _⟩
end
def StQ (E:PE) (R:(x:Fn)→PM x.Out) (top:Bool) (e:Nat) (f:Nat) (F:Nat→Prop) (w:World) (gp gu:Nat) (T:Res (List Nd)) (k:Nat) (d u:Value) (wr:World):Prop:=
 ∃(l:List Kd) (q:Ps) (dir:Bool),d= .bool dir∧l.length+k≤f∧Hid (dirL E.s R top e k dir (l.map (·.1)) q=T)∧Hid (Sa E F X0 w wr q [(gp,true,.p E.b),(gu,true,.c1 (.bool top) 4)] [] (some (u,l)))
theorem S.statementsD {E:PE} {R:(x:Fn)→PM x.Out} (hR:Env E R) {F:Nat→Prop} {w:World} {p:Ps} (f:Nat) (hf:f≤1073741824) (dir top:Bool) (e:Nat) {k0:FuncId} (hend:EndOk k0 e) (h:St E F w p) (hne:statementsQ E.s f R dir top e p≠ .out):
  Calls Tryz.prog 31 #[.pointer (some ⟨E.b,0,none⟩),.bool dir,.bool top,.func (Fn.func k0) #[] #[]] w (Ans E F X0 w (statementsQ E.s f R dir top e p) fun ks v w'=>KsIn E F w' ks v):=by
 obtain⟨T,hT⟩: ∃T,statementsQ E.s f R dir top e p=T:=⟨_,rfl⟩
 rw [hT] at hne⊢
 unfold statementsQ at hT
 have HT:=Lib.hid hT
 have HN:=Lib.hid hne
 have HA:=Sa.start0 (X:=X0) h
 clear h hne hT
 go_enter Tryz.func31,Tryz.ntmps31
 go_wp2_with fail
 replace HA:=HA.out.pP (g:=w.heap.size) rfl
 replace HA:=HA.out.p1 (g:=(w.heap.size+1)) (by simp) (.bool top) 4
 replace HA:=HA.out.row0
 go_loopg [1,9] f (fun k d u wr=>StQ E R top e f F w w.heap.size (w.heap.size+1) T k d u wr)
 case atStart=>exact⟨[],_,dir,rfl,by simp,HT,HA.out.pick [1,0] [] (by decide)⟩
 case round=>
  clear HT HA
  obtain⟨lk,q,dr,rfl,hlen,HT,HA⟩:=hrel
  cases gk with
  |zero=>exact absurd HT.out.symm HN.out
  |succ k=>
   unfold dirL at HT
   obtain⟨sa,sc,rfl⟩:=HA.out.rowform
   obtain⟨zpb,zub,-⟩:=HA.out.fs
   go_wp2_with fail
   refine HA.out.stepV HT HN (fun _ h e=>P.peek hR.ok 2 h.s e) ?_ ?_
   ·intro _ _ _ H;go_wp2_with fail;exact⟨rfl,Ans.badh H⟩
   clear zpb zub HT HA
   intro t q1 w1 HT HA
   obtain⟨zpb,zub,-⟩:=HA.out.fs
   have hent:=fun W=>(hend t W).1
   go_wp2_with fail
   replace HA:=HA.out.pT (g:=w1.heap.size) rfl t
   refine HA.out.stepQ (fun _ h=>(hend t _).2) ?_
   clear zpb zub HA
   intro w2 HA
   obtain⟨zt,zpb,zub,-⟩:=HA.out.fs
   cases he:endB e t with
   |true=>
    replace HT:=hpos HT (by exact he)
    go_wp2_with fail
    exact HA.out.fin_ks rfl rfl HT.out.symm
   |false=>
    replace HT:=hneg HT (by rw [he];decide)
    go_wp2_with fail
    replace HA:=HA.out.pZ (g:=w2.heap.size) rfl
    refine HA.out.deeper hR.ok t.from' HT HN (fun _=>by kernel_rfl) (C.statements1 hR t top) (.tail _ (.tail _ (.tail _ (.head _)))) [2,1,3,0] ⟨⟨_,_,rfl,.inl rfl⟩,⟨_,_,rfl,.inl rfl⟩,⟨_,_,rfl,.inl rfl⟩,⟨_,_,rfl,.inr ⟨rfl,_,_,_,_,_,_,_,rfl⟩⟩,trivial⟩ (by decide) 0 rfl ?_ ?_
    ·intro _ _ _ H;go_wp2_with fail;exact⟨rfl,Ans.badh H⟩
    clear zt zpb zub HT HA
    intro n an cn q3 w3 HT HA
    dsimp only [setAt] at HA
    obtain⟨zn,zt,zpb,zub,-⟩:=HA.out.fs
    have yn:=HA.out.fw 0 rfl
    cases dr with
    |true=>
     by_cases hk57:n.kind=57
     ·have hk57w:=kt hk57
      have e57:decide (n.kind=57)=true:=decide_eq_true hk57
      have hk57':=Lib.hid hk57
      clear hk57
      replace HT:=hpos HT (by rw [e57];rfl)
      cases hkk:n.kids with
      |nil=>
       rw [hkk] at HT
       exact absurd HT.out.symm HN.out
      |cons x xs=>
       have hl0:0<n.kids.length:=by rw [hkk];simp
       have hx0:n.kids[0]=x:=by simp [hkk]
       rw [hkk] at HT
       have hk2:Hid ((if x.kind=4 then dirL E.s R top e k true (lk.map (·.1)++ [.mk 78 x.text [] n.from' n.till]) else dirL E.s R top e k false (lk.map (·.1)++ [n])) _=T):=HT
       replace HT:=hk2
       clear hk2
       obtain⟨g0,off0,b0,c0,ha0,hg0,hc0,hc1,_,_,_,_⟩:=HA.out.kid 0 rfl hl0
       rw [hx0] at hc0 hc1
       rw [show off0+0*5=off0 by omega] at hc0 hc1
       clear hx0
       have hl0':(0:Int)<(n.kids.length:Int):=by omega
       have HKK:=Lib.hid hkk
       clear hkk
       obtain⟨xk,hxk⟩: ∃xk,x.kind=xk:=⟨_,rfl⟩
       rw [hxk] at hc0 HT
       clear hxk
       by_cases hk4:xk=4
       ·have hk4w:=kt hk4
        replace HT:=hpos HT (by exact hk4)
        subst hk4
        go_upto_region 9 with fail
        go_region
        clear zn zt zpb zub yn
        clear ha0 hc0 hc1
        obtain⟨W3,e3,HA⟩:=HA.out.dir3 0 rfl x.text
        rw [e3]
        clear e3
        dsimp only [setAt] at HA
        replace HA:=HA.out.drew
        generalize World.drew W3=w9 at*
        obtain⟨zn,zt,zpb,zub,-⟩:=HA.out.fs
        have yn:=HA.out.fw 0 rfl
        go_upto_region 10 with fail
        go_wp2_with (at_builtin;refine wp_app (by rfl) _ _ _ (by rfl) (by kernel_rfl) nd_info HA.out 0 rfl (by rfl) (g:=w9.heap.size) rfl (by rfl) rfl (by omega) ?_;clear zn zt zpb zub yn HA;intro rr rc w4 HA)
        go_roundg k
        case measure=>exact Nat.lt_succ_self k
        case rel=>exact⟨lk++ [(Nd.mk 78 x.text [] n.from' n.till,none,0)],_,true,rfl,by simp;omega,by rw [List.map_append];exact HT,HA.out.pick [2,3] [] (by decide)⟩
       ·have hk4w:=kf hk4
        replace HT:=hneg HT (by exact hk4)
        have hk4':=Lib.hid hk4
        clear hk4
        go_upto_region 10 with fail
        clear ha0
        go_wp2_with (at_builtin;refine wp_app (by rfl) _ _ _ (by rfl) (by kernel_rfl) nd_info HA.out 0 rfl (by rfl) (g:=w3.heap.size) rfl (by rfl) rfl (by omega) ?_;clear zn zt zpb zub yn HA;intro rr rc w4 HA)
        go_roundg k
        case measure=>exact Nat.lt_succ_self k
        case rel=>exact⟨lk++ [(n,an,cn)],_,false,rfl,by simp;omega,by rw [List.map_append];exact HT,HA.out.pick [2,3] [] (by decide)⟩
     ·have hk57w:=kf hk57
      have e57:decide (n.kind=57)=false:=decide_eq_false hk57
      have hk57':=Lib.hid hk57
      clear hk57
      replace HT:=hneg HT (by rw [e57];decide)
      go_upto_region 10 with fail
      go_wp2_with (at_builtin;refine wp_app (by rfl) _ _ _ (by rfl) (by kernel_rfl) nd_info HA.out 0 rfl (by rfl) (g:=w3.heap.size) rfl (by rfl) rfl (by omega) ?_;clear zn zt zpb zub yn HA;intro rr rc w4 HA)
      go_roundg k
      case measure=>exact Nat.lt_succ_self k
      case rel=>exact⟨lk++ [(n,an,cn)],_,false,rfl,by simp;omega,by rw [List.map_append];exact HT,HA.out.pick [2,3] [] (by decide)⟩
    |false=>
     replace HT:=hneg HT (by rw [Bool.false_and];decide)
     go_upto_region 10 with fail
     go_wp2_with (at_builtin;refine wp_app (by rfl) _ _ _ (by rfl) (by kernel_rfl) nd_info HA.out 0 rfl (by rfl) (g:=w3.heap.size) rfl (by rfl) rfl (by omega) ?_;clear zn zt zpb zub yn HA;intro rr rc w4 HA)
     go_roundg k
     case measure=>exact Nat.lt_succ_self k
     case rel=>exact⟨lk++ [(n,an,cn)],_,false,rfl,by simp;omega,by rw [List.map_append];exact HT,HA.out.pick [2,3] [] (by decide)⟩
end
section
open Go.RowKit
theorem ap9 (s:ByteArray) (p:Nat) (w:World) (hs:s.size≤16777216) (hp:p≤s.size) (hT:Lib.Utf8Tabs 4 5 w) (hM:MaxAt w) (hS:Lib.TabIs Tryz.prog w "strings.asciiSpace" .u8 Lib.asciiSpaceTab) (h125:Lib.hasPrefix (s.data.toList.drop p) [125]=true):
  Calls Tryz.prog 39 #[.string s,.int .i64 p,.int .i64 3] w fun e w'=>NxPost s w (nxt s p 3) e w':=by
 have hk:=tk_new w
 have hb:Below w.heap.size w (w.alloc (.cells Tk.zero.cells 54)):=Below.alloc (Below.refl _ w) (Nat.le_refl _) _
 have hl:w.heap.size<(w.alloc (.cells Tk.zero.cells 54)).heap.size:=by rw [World.size_alloc];omega
 have hn0:=Nst.start (s:=s) (p:=p) hk hb hl hT hM hS
 have hbb:(w.alloc (.cells Tk.zero.cells 54)).heap.size=w.heap.size+1:=World.size_alloc _ _
 have hO:=nxt_ok (s:=s) (p:=p) (goal:=3) (by rintro(h|h|⟨_,h⟩);omega;omega;exact h h125)
 have hO2:nxt s p 3=(match (BtO.fine p false []) with
  | .bad place code=> .bad place code
  | .fine q line cs=>match tailT (s.data.toList.drop q) with
   | .fine kind n=> .fine kind q n line cs
   | .bad off code=> .bad ((q+off:Nat):Int) code):=hO
 generalize nxt s p 3=O at*
 have HO:=Lib.hid hO2
 clear hO hO2 hT hM hS hk hb hl
 unfold Tk.zero Tk.cells Rd.cells at hn0
 unfold Tk.zero Tk.cells at hbb
 simp only at hn0 hbb
 have hlt:p<s.size:=by
  have:=prefix_len h125
  rw [List.length_drop,ofl] at this
  simp at this
  omega
 rw [hp1 s p 125 hlt] at h125
 have b0:(((p:Nat):Int)==((s.size:Nat):Int))=false:=by rw [beq_eq_false_iff_ne];omega
 have b1:(((s[p].toNat:Nat):Int) !=125)=false:=by rw [bne_eq_false_iff_eq,eq_of_beq h125];rfl
 clear h125
 go_enter Tryz.func39,Tryz.ntmps39
 go_upto_region 5 with fail
 go_upto_region 8 with fail
 rw [hbb] at hn0
 generalize World.alloc (World.alloc _ _) _=w1 at*
 clear hbb
 generalize hgg:w.heap.size=g at*
 generalize hbbb:g+1=b at*
 have HN:=Lib.hid hn0
 have HG:=Lib.hid hgg
 clear hn0 hbbb
 clear hgg
 obtain⟨c0,c1,c2,c3,c4,f0,f1,f2,f3,f4⟩:=RdAt.facts HN.out.rd
 obtain⟨z0,z1,z2,z3,z4,y0,y1,y2,y3,y4⟩:=TkAt.facts HN.out.res
 have HO2:=HO
 clear HO
 have hql:p≤s.size:=hp
 go_upto_region 10 with fail
 have hzb:=HN.out.tokN ⟨0,⟨#[]⟩,((p:Nat):Int),0,false⟩
 unfold Tk.cells at hzb
 simp only at hzb
 have hza:=HN.out.tok0
 unfold Tk.zero Tk.cells at hza
 simp only at hza
 obtain⟨r0,r1,r2,r3,r4,q0,q1,q2,q3,q4⟩:=RdAt.facts hza.n.rd
 obtain⟨t0,t1,t2,t3,t4,u0',u1',u2',u3',u4'⟩:=TkAt.facts hza.tok
 go_cut [13] from 14 (fun u wx=> ∃h,u= .pointer (some ⟨h,0,none⟩)∧Nst2 b g h s w ⟨p,false,0,0⟩ (.slice none 0 0) ([]) ⟨0,⟨#[]⟩,((p:Nat):Int),0,false⟩ wx)
 case first=>
  go_region
  all_goals go_wp2_with fail
  all_goals go_meet
  all_goals exact⟨_,rfl,hzb.drew⟩
 case' rest=>
  obtain⟨h,rfl,hn2⟩:=hcut
  clear c0 c1 c2 c3 c4 f0 f1 f2 f3 f4 z0 z1 z2 z3 z4 y0 y1 y2 y3 y4 HN r0 r1 r2 r3 r4 q0 q1 q2 q3 q4 t0 t1 t2 t3 t4 u0' u1' u2' u3' u4' hza hzb
  have HN:=Lib.hid hn2
  clear hn2
  obtain⟨c0,c1,c2,c3,c4,f0,f1,f2,f3,f4⟩:=RdAt.facts HN.out.n.rd
  obtain⟨z0,z1,z2,z3,z4,y0,y1,y2,y3,y4⟩:=TkAt.facts HN.out.n.res
  obtain⟨d0,d1,d2,d3,d4,g0,g1,g2,g3,g4⟩:=TkAt.facts HN.out.tok
 have htk:=fun W hx hr=>am1 b s p false 0 W hx hr hs hlt
 cases hto:tailT (s.data.toList.drop p) with
 |fine kind n=>
  rw [hto] at htk
  simp only [TkP] at htk
  have HTK:=Lib.hid htk
  have HF:=Lib.hid (show O= .fine kind p n false [] by rw [HO2.out];simp only [hto])
  clear htk hto HO2
  go_upto_region 20 with (go_at_call 54;refine(HTK.out _ HN.out.n.rd HN.out.n.rdy).mono ?_;rintro e w9 ⟨rfl,hst9⟩;clear c0 c1 c2 c3 c4 f0 f1 f2 f3 f4 z0 z1 z2 z3 z4 y0 y1 y2 y3 y4 d0 d1 d2 d3 d4 g0 g1 g2 g3 g4;have hqn9:p+n≤s.size:=hst9.le;replace HN:=Lib.hid (HN.out.step hst9.rd hst9.but);clear hst9;obtain⟨c0,c1,c2,c3,c4,f0,f1,f2,f3,f4⟩:=RdAt.facts HN.out.n.rd;obtain⟨z0,z1,z2,z3,z4,y0,y1,y2,y3,y4⟩:=TkAt.facts HN.out.n.res;obtain⟨d0,d1,d2,d3,d4,g0,g1,g2,g3,g4⟩:=TkAt.facts HN.out.tok)
  obtain⟨c0,c1,c2,c3,c4,f0,f1,f2,f3,f4⟩:=RdAt.facts HN.out.n.rd
  obtain⟨z0,z1,z2,z3,z4,y0,y1,y2,y3,y4⟩:=TkAt.facts HN.out.n.res
  obtain⟨d0,d1,d2,d3,d4,g0,g1,g2,g3,g4⟩:=TkAt.facts HN.out.tok
  clear c0 c1 c2 c3 c4 f0 f1 f2 f3 f4 z0 z1 z2 z3 z4 y0 y1 y2 y3 y4 d0 d1 d2 d3 d4 g0 g1 g2 g3 g4
  have hn3:=HN.out.set 0 (.int .i64 kind) (y:=⟨kind,⟨#[]⟩,((p:Nat):Int),0,false⟩) rfl
  clear HN
  generalize World.setCell _ _ _=w5 at*
  have HN:=Lib.hid hn3
  clear hn3
  obtain⟨c0,c1,c2,c3,c4,f0,f1,f2,f3,f4⟩:=RdAt.facts HN.out.n.rd
  obtain⟨z0,z1,z2,z3,z4,y0,y1,y2,y3,y4⟩:=TkAt.facts HN.out.n.res
  obtain⟨d0,d1,d2,d3,d4,g0,g1,g2,g3,g4⟩:=TkAt.facts HN.out.tok
  go_upto_region 23 with fail
  have hn3:=HN.out.set 3 (.int .i64 ((p:Int)+(n:Int))) (y:=⟨kind,⟨#[]⟩,((p:Nat):Int),(p:Int)+(n:Int),false⟩) rfl
  clear c0 c1 c2 c3 c4 f0 f1 f2 f3 f4 z0 z1 z2 z3 z4 y0 y1 y2 y3 y4 d0 d1 d2 d3 d4 g0 g1 g2 g3 g4
  clear HN
  generalize World.setCell _ _ _=w6 at*
  have HN:=Lib.hid hn3
  clear hn3
  obtain⟨c0,c1,c2,c3,c4,f0,f1,f2,f3,f4⟩:=RdAt.facts HN.out.n.rd
  obtain⟨z0,z1,z2,z3,z4,y0,y1,y2,y3,y4⟩:=TkAt.facts HN.out.n.res
  obtain⟨d0,d1,d2,d3,d4,g0,g1,g2,g3,g4⟩:=TkAt.facts HN.out.tok
  go_upto_region 24 with fail
  have hn3:=HN.out.set 1 (.string (s.extract p (p+n))) (y:=⟨kind,s.extract p (p+n),((p:Nat):Int),(p:Int)+(n:Int),false⟩) rfl
  clear c0 c1 c2 c3 c4 f0 f1 f2 f3 f4 z0 z1 z2 z3 z4 y0 y1 y2 y3 y4 d0 d1 d2 d3 d4 g0 g1 g2 g3 g4
  clear HN
  generalize World.setCell _ _ _=w7 at*
  have HN:=Lib.hid hn3
  clear hn3
  obtain⟨c0,c1,c2,c3,c4,f0,f1,f2,f3,f4⟩:=RdAt.facts HN.out.n.rd
  obtain⟨z0,z1,z2,z3,z4,y0,y1,y2,y3,y4⟩:=TkAt.facts HN.out.n.res
  obtain⟨d0,d1,d2,d3,d4,g0,g1,g2,g3,g4⟩:=TkAt.facts HN.out.tok
  go_wp2_with fail
  (try simp only [Exit.inBlock,Exit.then])
  refine bodyPost_ret (results_tk4 rfl _ _ _ _ rfl (TkAt.lay HN.out.n.res)) rfl ?_
  rw [HF.out]
  have hgl:=HN.out.n.gl
  have hgg:=HN.out.n.gg
  exact⟨_,by rw [show ((p+n:Nat):Int)=(p:Int)+(n:Int) by omega];rfl,(HN.out.n.own.lay5 (show g<b+1 by omega)).mono (show w.heap.size≤b+1 by have:=HG.out;omega),below_lay5 HN.out.n.bel hgg⟩
 |bad off code=>
  rw [hto] at htk
  simp only [TkP] at htk
  have HTK:=Lib.hid htk
  have HF:=Lib.hid (show O= .bad ((p+off:Nat):Int) code by rw [HO2.out];simp only [hto])
  clear htk hto HO2
  go_upto_region 20 with (go_at_call 54;refine(HTK.out _ HN.out.n.rd HN.out.n.rdy).mono ?_;rintro e w9 ⟨x',kd,rfl,hst9,hl9,hf9,hc9⟩;clear c0 c1 c2 c3 c4 f0 f1 f2 f3 f4 z0 z1 z2 z3 z4 y0 y1 y2 y3 y4 d0 d1 d2 d3 d4 g0 g1 g2 g3 g4;obtain⟨p9,l9,f9,e9⟩:=x';simp only at hl9 hf9 hc9;subst hf9;subst hc9;replace HN:=Lib.hid (HN.out.step hst9.rd hst9.but);clear hst9;obtain⟨c0,c1,c2,c3,c4,f0,f1,f2,f3,f4⟩:=RdAt.facts HN.out.n.rd;obtain⟨z0,z1,z2,z3,z4,y0,y1,y2,y3,y4⟩:=TkAt.facts HN.out.n.res;obtain⟨d0,d1,d2,d3,d4,g0,g1,g2,g3,g4⟩:=TkAt.facts HN.out.tok)
  obtain⟨c0,c1,c2,c3,c4,f0,f1,f2,f3,f4⟩:=RdAt.facts HN.out.n.rd
  obtain⟨z0,z1,z2,z3,z4,y0,y1,y2,y3,y4⟩:=TkAt.facts HN.out.n.res
  obtain⟨d0,d1,d2,d3,d4,g0,g1,g2,g3,g4⟩:=TkAt.facts HN.out.tok
  clear c0 c1 c2 c3 c4 f0 f1 f2 f3 f4 z0 z1 z2 z3 z4 y0 y1 y2 y3 y4 d0 d1 d2 d3 d4 g0 g1 g2 g3 g4
  have hn3:=HN.out.set 0 (.int .i64 kd) (y:=⟨kd,⟨#[]⟩,((p:Nat):Int),0,false⟩) rfl
  clear HN
  generalize World.setCell _ _ _=w5 at*
  have HN:=Lib.hid hn3
  clear hn3
  obtain⟨c0,c1,c2,c3,c4,f0,f1,f2,f3,f4⟩:=RdAt.facts HN.out.n.rd
  obtain⟨z0,z1,z2,z3,z4,y0,y1,y2,y3,y4⟩:=TkAt.facts HN.out.n.res
  obtain⟨d0,d1,d2,d3,d4,g0,g1,g2,g3,g4⟩:=TkAt.facts HN.out.tok
  go_upto_region 21 with fail
  have hrz:=HN.out.n.res
  have hbz:=HN.out.n.bel
  have hgg:=HN.out.n.gg
  have hr5:=rd_lay5 (u0:= .int .i64 0) (u1:= .string ⟨#[]⟩) (u2:= .int .i64 0) (u3:= .int .i64 0) (u4:= .bool false) HN.out.n.rd HN.out.n.gl
  obtain⟨r0,r1,r2,r3,r4,q0,q1,q2,q3,q4⟩:=RdAt.facts hr5
  go_region
  all_goals go_wp2_with fail
  all_goals (try simp only [Exit.inBlock,Exit.then])
  all_goals refine bodyPost_ret (results_tk4 rfl _ _ _ _ rfl ((TkAt.lay (x:=Tk.zero) hrz).bel (Below.drew (Below.refl _ _)))) rfl ?_
  all_goals rw [HF.out]
  all_goals exact⟨rfl,(below_lay5 hbz hgg).drew⟩
theorem al4: ∀(l:List UInt8),escG l=true→Lib.indexByte l 92= -1∨∃(i:Nat) (r:List UInt8),Lib.indexByte l 92=i∧l.drop i=92::96::r∧escG r=true
 | [],_=> .inl rfl
 | [c],h=>by
  have h1:c≠92:=of_decide_eq_true h
  left
  unfold Lib.indexByte
  rw [if_neg (by rw [beq_iff_eq];exact h1)]
  rfl
 |c::d::l,h=>by
  rw [escG] at h
  by_cases hc:c=92
  ·subst hc
   rw [if_pos rfl,Bool.and_eq_true,decide_eq_true_eq] at h
   obtain⟨rfl,h2⟩:=h
   exact .inr ⟨0,l,by unfold Lib.indexByte;rw [if_pos (by decide)];rfl,rfl,h2⟩
  ·rw [if_neg hc] at h
   have hb: ¬(c==92)=true:=by rw [beq_iff_eq];exact hc
   rcases al4 (d::l) h with e|⟨i,r,e,h1,h2⟩
   ·left
    rw [Lib.indexByte,if_neg hb,e]
    rfl
   ·right
    refine⟨i+1,r,?_,by rw [List.drop_succ_cons];exact h1,h2⟩
    rw [Lib.indexByte,if_neg hb,e,if_neg (by rw [beq_iff_eq];omega)]
    rfl
theorem ar4: ∀(l:List UInt8) (c:UInt8),Lib.indexByte l c≤l.length
 | [],_=>by unfold Lib.indexByte;decide
 |b::l,c=>by
  have:=ar4 l c
  unfold Lib.indexByte
  rw [List.length_cons]
  split
  ·omega
  ·split<;>omega
theorem ag7 (t:ByteArray) (w:World) (h0:2≤t.size) (h1:t[1]=96):Calls Tryz.prog 250 #[.string t] w fun e w'=>e= .returned (.int .i64 2)∧w=w':=by
 have hs:(1:Int)<(t.size:Int):=by omega
 have c1:(((t[1].toNat:Nat):Int)==117)=false:=by rw [h1];rfl
 have c2:(((t[1].toNat:Nat):Int)==120)=false:=by rw [h1];rfl
 have c3:(((t[1].toNat:Nat):Int)==48)=false:=by rw [h1];rfl
 clear h1
 by_cases h3:2<t.size
 ·have h4:(2:Int)<(t.size:Int):=by omega
  go_enter Tryz.func250,Tryz.ntmps250
  go_wp2_with fail
  go_ret
  exact⟨rfl,rfl⟩
 ·have h4: ¬(2:Int)<(t.size:Int):=by omega
  go_enter Tryz.func250,Tryz.ntmps250
  go_wp2_with fail
  go_ret
  exact⟨rfl,rfl⟩
theorem ar7 {s:ByteArray} {i:Nat} (h:i<s.size) {c:UInt8} (hc:s.data.toList[i]? =some c):s[i]=c:=by
 have h2:i<s.data.size:=h
 have:s.data[i]'h2=c:=by
  rw [Array.getElem?_toList,Array.getElem?_eq_getElem h2] at hc
  exact Option.some.inj hc
 exact this
theorem ap8:strC [34,92,96,34]=(true,0):=by kernel_rfl
def aq3:Value→Nat
 | .string s=>s.size
 |_=>0
theorem ac9 (t:ByteArray) (w:World) (hs:t.size≤16777216) (he:escG t.data.toList=true) (hx:Lx w):Calls Tryz.prog 229 #[.string t] w fun e w'=>e= .returned (.bool true)∧Below w.heap.size w w':=by
 have HX:=Lib.hid hx
 clear hx
 go_enter Tryz.func229,Tryz.ntmps229
 go_wp2_with fail
 go_loopw [0,3,4,5,6] (fun sv _ _ _ _ wr=> ∃t:ByteArray,sv= .string t∧t.size≤16777216∧escG t.data.toList=true∧Below w.heap.size w wr) (fun sv _ _ _ _ _=>aq3 sv)
 case atStart=>exact⟨t,rfl,hs,he,Below.refl _ _⟩
 case round=>
  clear hs he
  obtain⟨t,rfl,hs,he,hb⟩:=hrel
  have HB:=Lib.hid hb
  have HI:=Lib.hid (fun W=>Tryz.strings_IndexByte t 92 W)
  have hi:=al4 _ he
  clear he hb
  rw [show (92:Int).toNat.toUInt8=92 from rfl] at HI
  rcases hi with e|⟨i,r,e,hd,hr⟩
  ·rw [e] at HI
   clear e
   go_wp2_with (go_at_call 92;refine(HI.out _).mono ?_;rintro e w6 ⟨rfl,rfl⟩)
   go_ret
   exact⟨rfl,HB.out⟩
  ·rw [e] at HI
   have hle:=ar4 t.data.toList 92
   rw [e,ofl] at hle
   have hlen:(t.data.toList.drop i).length=t.size - i:=by rw [List.length_drop,ofl]
   rw [hd] at hlen
   simp only [List.length_cons] at hlen
   obtain⟨u,hu⟩: ∃u,t.extract i t.size=u:=⟨_,rfl⟩
   have hul:u.data.toList=92::96::r:=by rw [←hu,extract_drop,hd]
   have hus:u.size=r.length+2:=by rw [←ofl,hul];rfl
   have hu1:u[1]'(by omega)=96:=ar7 (by omega) (by rw [hul];rfl)
   have hu2:u.extract 0 2=⟨#[92,96]⟩:=by
    refine(byteArray_ext _ [92,96] ?_).symm
    rw [ByteArray.data_extract,Array.toList_extract,List.extract_eq_take_drop,hul]
    rfl
   obtain⟨v,hv⟩: ∃v,u.extract 2 u.size=v:=⟨_,rfl⟩
   have hvl:v.data.toList=r:=by rw [←hv,extract_drop,hul];rfl
   have HV:=Lib.hid hvl
   have hvs:v.size=r.length:=by rw [←ofl,hvl]
   have HE:=Lib.hid (fun W=>ag7 u W (by omega) hu1)
   have HC:=Lib.hid (fun(W:World) (hW:Lx W)=>show Calls Tryz.prog 148 #[.string ⟨#[34,92,96,34]⟩] W fun e w'=>e= .returned (.tuple #[.int .i64 0,.int .i64 0])∧Below W.heap.size W w' from by
    have h:=scheck_any ⟨#[34,92,96,34]⟩ W (by decide) hW.tabs
    rw [show (⟨#[34,92,96,34]⟩:ByteArray).data.toList= [34,92,96,34] from rfl,ap8] at h
    exact h)
   have HU:=Lib.hid hu
   have HU2:=Lib.hid hu2
   have HV2:Hid (u.extract 2 (t.size - i)=v):=Lib.hid (by rw [show t.size - i=u.size by omega];exact hv)
   have n1:(0:Int)≤(i:Int):=by omega
   have n2:(i:Int)≤(t.size:Int):=by omega
   have n3: ¬(2:Int)>(u.size:Int):=by omega
   have n4:(1:Int)<(u.size:Int):=by omega
   have n5:(2:Int)≤(u.size:Int):=by omega
   have n6:((u[1].toNat:Nat):Int)<128:=by rw [hu1];decide
   have hus2:2≤u.size:=by omega
   have hvt:v.size<t.size:=by omega
   have hvs2:v.size≤16777216:=by omega
   have HR:=Lib.hid hr
   clear e hd hul hu1 hu2 hvl hu hv hr
   go_wp2_with (go_at_call 92;refine(HI.out _).mono ?_;rintro e w6 ⟨rfl,rfl⟩)
   rw [HU.out]
   refine(HE.out _).mono ?_
   rintro e w7 ⟨rfl,rfl⟩
   go_wp2_with fail
   rw [HU2.out,show(⟨#[34]⟩++⟨#[92,96]⟩++⟨#[34]⟩:ByteArray)=⟨#[34,92,96,34]⟩ from rfl]
   refine(HC.out _ (HX.out.bel HB.out)).mono ?_
   rintro e w8 ⟨rfl,hb8⟩
   go_wp2_with fail
   rw [HV2.out]
   go_roundw
   case rel=>exact⟨v,rfl,hvs2,by rw [HV.out];exact HR.out,bel_next HB.out hb8⟩
   case measure=>simp [aq3];omega
theorem P.peek3 {E:PE} (hE:E.Ok) {F:Nat→Prop} {w:World} {p:Ps} (h:St E F w p) (hne:peekP E.s 3 p≠ .out):
  Calls Tryz.prog 23 #[.pointer (some ⟨E.b,0,none⟩),.int .i64 3] w (Ans E F X0 w (peekP E.s 3 p) fun t v _=>v= .agg #[.int .i64 t.kind,.string t.text,.int .i64 t.from',.int .i64 t.till,.bool t.line]):=
 P.peekN hE 3 h hne fun z W hz hb=>by
  have hx:=(hE.lx.bel h.bel).bel hb
  by_cases h125:Lib.hasPrefix (E.s.data.toList.drop z) [125]=true
  ·exact ap9 E.s z W hE.hs hz hx.tabs hx.max hx.spc h125
  ·have e:nxt E.s z 3= .bad 0 501:=by unfold nxt;rw [if_pos (.inr (.inr ⟨rfl,h125⟩))]
   rw [e]
   exact ak5 E.s z 3 W hz (.inr (.inr ⟨rfl,h125⟩))
theorem St.c_ahead0 {E:PE} {F:Nat→Prop} {w:World} {q:Ps} (h:St E F w q) (hq:q.ahead= []): ∃pa ca,w.cell? ⟨E.b,7,none⟩=some (.slice pa 0 ca):=by
 obtain⟨va,vc,mb,D,h0⟩:=h.open
 obtain⟨pa,ca,e⟩:=h0.ah.form
 rw [hq] at e
 exact⟨pa,ca,by rw [cell_of_row _ _ 7 _ _ _ h0.hb,←show va= .slice pa 0 ca from e];rfl⟩
theorem St.resto {E:PE} {F X:Nat→Prop} {w w4:World} {q q4:Ps} {va:Value} (hE:E.w0.heap.size≤E.b) (h:St E F w q) (hq:q.ahead= []) (hva:w.cell? ⟨E.b,7,none⟩=some va) (hp:PB E.b X w w4) (hX: ∀k,X k→F k) (h4:St E F w4 q4) (hq4:q4.ahead= []):
  St E F (w4.setCell ⟨E.b,7,none⟩ va) q4∧PB E.b X0 w4 (w4.setCell ⟨E.b,7,none⟩ va):=by
 obtain⟨va0,vc,mb,D,h0⟩:=h.open
 obtain⟨va4,vc4,mb4,D4,k4⟩:=h4.open
 have e7:va0=va:=by
  rw [cell_of_row _ _ 7 _ _ _ h0.hb] at hva
  simpa [psCells] using hva
 subst e7
 have ho:Only (fun k=>k=E.b) w4 (w4.setCell ⟨E.b,7,none⟩ va0):=Only.setCell (X:=fun k=>k=E.b) (Only.refl _ w4) (p:=⟨E.b,7,none⟩) (.inl rfl) va0
 have hno: ∀g,va0.ownBlock=some g→¬Own w E.b g:=fun g hg ho=>by
  obtain⟨_,_,h1,h2,h3⟩:=h0.ahF g hg
  rcases (h0.own g).1 ho with e|e|e
  ·exact h1 e
  ·exact h2 e
  ·exact h3 e
 have ha:OwnC 0 w4 va0 q4.ahead:=by
  rw [hq4]
  have:=h0.ah
  rw [hq] at this
  exact ownsRow_keep this fun g hg hl=>hp.only.block g hl fun e=>e.elim (hno g hg) fun hx=>(h0.ahF g hg).2.1 (hX g hx)
 have haF: ∀g,va0.ownBlock=some g→g<w4.heap.size∧¬F g∧g≠E.b∧vc4.ownBlock≠some g∧g≠mb4:=fun g hg=>by
  obtain⟨h1,h2,h3,_,_⟩:=h0.ahF g hg
  have key: ∀k,Own w4 E.b k→k≠g:=fun k hk e=>by
   subst e
   rcases hp.own k hk with hk2|hk2
   ·exact hno k hg hk2
   ·omega
  exact⟨Nat.lt_of_lt_of_le h1 hp.only.size,h2,h3,fun e=>key g ((k4.own g).2 (.inr (.inl e))) rfl,fun e=>key mb4 ((k4.own mb4).2 (.inr (.inr rfl))) e.symm⟩
 have h5:StO E F (w4.setCell ⟨E.b,7,none⟩ va0) q4 va0 vc4 mb4 D4:=k4.turn ho (by rw [heap_setCell_same w4 E.b 7 _ _ va0 k4.hb];simp [psCells]) ha haF rfl rfl k4.nst hE
 exact⟨h5.st,k4.pb h5 (ho.mono fun _ hk=> .inl hk) (fun _ hk=> .inl hk) rfl⟩
attribute [local go_sem] fld_tk0 fld_tk1 fld_tk2 fld_tk3 fld_tk4 mk_func
attribute [local go_sem ↓] Go.wp_at_zero Go.wp_at_succ
def TmR (E:PE) (R:(x:Fn)→PM x.Out) (f:Nat) (F:Nat→Prop) (w:World) (gr:Nat) (from':Int) (T:Res Nd) (k:Nat) (u tp:Value) (wr:World):Prop:=
 ∃(l:List Kd) (q:Ps) (tv:Tk) (gt:Nat),tp= .pointer (some ⟨gt,0,none⟩)∧l.length+2*k≤2*f∧Hid (ad5 E.s R from' k (l.map (·.1)) tv q=T)∧Hid (Sa E F X0 w wr q [(gr,true,.z),(gt,true,.tk tv)] [] (some (u,l)))
theorem S.templateX {E:PE} {R:(x:Fn)→PM x.Out} (hR:Env E R) {F:Nat→Prop} {w:World} {p:Ps} (f:Nat) (tagged:Bool) (h:St E F w p) (hne:ab4 E.s f R p≠ .out):
  Calls Tryz.prog 194 #[.pointer (some ⟨E.b,0,none⟩),.bool tagged] w (Ans E F X0 w (ab4 E.s f R p) fun n v w'=>IsP E F w' n v):=by
 obtain⟨T,hT⟩: ∃T,ab4 E.s f R p=T:=⟨_,rfl⟩
 rw [hT] at hne⊢
 unfold ab4 at hT
 have HT:=Lib.hid hT
 have HN:=Lib.hid hne
 have HA:=Sa.start0 (X:=X0) h
 clear h hne hT
 go_enter Tryz.func194,Tryz.ntmps194
 go_upto_region 1 with fail
 replace HA:=HA.out.pZ (g:=w.heap.size) rfl
 generalize (w.alloc (.cells #[.int .i64 0,.string ⟨#[]⟩,.slice none 0 0,.int .i64 0,.int .i64 0] 31))=w1 at*
 obtain⟨zr,-⟩:=HA.out.fs
 have yr:=HA.out.fw 0 rfl
 replace HT:=hget HT
 obtain⟨t,ht⟩: ∃t,p.tok=t:=⟨_,rfl⟩
 have c2:=HA.out.c_kind
 have c3:=HA.out.c_text
 have c4:=HA.out.c_from
 have c5:=HA.out.c_till
 have c6:=HA.out.c_line
 rw [ht] at c2 c3 c4 c5 c6 HT
 have HTK:=Lib.hid ht
 clear ht
 go_wp2_with fail
 replace HA:=HA.out.pT (g:=w1.heap.size) rfl t
 clear zr yr
 generalize (w1.alloc (.cells #[.int .i64 t.kind,.string t.text,.int .i64 t.from',.int .i64 t.till,.bool t.line] 54))=w2 at*
 obtain⟨zt,zr,-⟩:=HA.out.fs
 have yr:=HA.out.fw 1 rfl
 clear zt zr yr
 replace HA:=HA.out.row0
 go_loopg [6,7,8] f (fun k u tp _ wr=>TmR E R f F w (w.heap.size) t.from' T k u tp wr)
 case atStart=>exact⟨[],_,t,w1.heap.size,rfl,by simp,HT,HA.out.pick [1,0] [] (by decide)⟩
 case round=>
  clear c2 c3 c4 c5 c6 HT HA
  obtain⟨lk,q,tv,gt,rfl,hlen,HT,HA⟩:=hrel
  cases gk with
  |zero=>exact absurd HT.out.symm HN.out
  |succ k=>
   unfold ad5 at HT
   obtain⟨sa,sc,rfl⟩:=HA.out.rowform
   by_cases hbig:4194304<(lk.map (·.1)).length
   ·rw [if_pos hbig] at HT
    exact absurd HT.out.symm HN.out
   rw [if_neg hbig] at HT
   have hlen2:lk.length≤4194304:=by rw [List.length_map] at hbig;omega
   clear hbig
   obtain⟨zr,zt,-⟩:=HA.out.fs
   have yr:=HA.out.fw 0 rfl
   by_cases hk:tv.kind=8∨tv.kind=10
   ·rw [if_pos hk] at HT
    by_cases hsz:tv.text.size<3∨16777216<tv.text.size∨escG (tv.text.extract 1 (tv.text.size - 2)).data.toList=false
    ·rw [if_pos hsz] at HT
     exact absurd HT.out.symm HN.out
    rw [if_neg hsz] at HT
    simp only [not_or] at hsz
    obtain⟨hs3,hs24,hesc⟩:=hsz
    have hesc2:escG (tv.text.extract 1 (tv.text.size - 2)).data.toList=true:=by simpa using hesc
    have HESC:=Lib.hid hesc2
    clear hesc hesc2
    have key:(tv.kind==8)=true∨((tv.kind==8)=false∧(tv.kind==10)=true):=by
     by_cases h8:tv.kind=8
     ·exact .inl (kt h8)
     ·exact .inr ⟨kf h8,kt (hk.resolve_left h8)⟩
    clear hk
    rcases key with e8|⟨e8,e10⟩
    all_goals
     go_wp2_with fail
     refine HA.out.leaf 9 tv ?_
     clear zr zt yr HA
     intro n am cm w3 HE HA
     obtain⟨zr,zt,-⟩:=HA.out.fs
     have yr:=HA.out.fw 0 rfl
     have hts:((tv.text.size:Int) - 2).toNat=tv.text.size - 2:=by omega
     have hts1:(1:Int)≤(tv.text.size:Int) - 2:=by omega
     have hts2:(tv.text.size:Int) - 2≤(tv.text.size:Int):=by omega
     go_upto_region 9 with fail
     obtain⟨x,hx⟩: ∃x,tv.text.extract 1 (tv.text.size - 2)=x:=⟨_,rfl⟩
     have hxs:x.size≤16777216:=by rw [←hx,ByteArray.size_extract];omega
     obtain⟨m,hm⟩: ∃m,Nd.mk n.kind x n.kids n.from' n.till=m:=⟨_,rfl⟩
     have HM:=Sa.retext HA.out x
     rw [hm] at HM
     have hm2:aa9 tv 2=m:=by rw [←hm,←HE.out];unfold aa9;rw [hx];rfl
     rw [hm2] at HT
     rw [hx] at HESC
     have e1:n.kind=m.kind:=by rw [←hm];rfl
     have e2:x=m.text:=by rw [←hm];rfl
     have e3:n.kids.length=m.kids.length:=by rw [←hm];rfl
     have e4:n.from'=m.from':=by rw [←hm];rfl
     have e5:n.till=m.till:=by rw [←hm];rfl
     rw [hx]
     rw [e2] at HESC hxs
     simp only [e1,e2,e3,e4,e5]
     replace HA:=Lib.hid HM
     have HXS:=Lib.hid hxs
     clear HM hm hm2 hx e1 e2 e3 e4 e5 HE hts hts1 hts2 hxs
     cases tagged
     focus
      go_wp2_with fail
      replace HA:=HA.out.pN (g:=w3.heap.size) rfl m am cm
      refine HA.out.stepQ (fun _ h=>ac9 m.text _ HXS.out HESC.out (hR.ok.lx.bel h.s.bel)) ?_
      clear zr zt yr HA
      intro w4 HA
      obtain⟨zm,zr,zt,-⟩:=HA.out.fs
      have yr:=HA.out.fw 1 rfl
      go_upto_region 11 with fail
      clear zm zr zt yr
      replace HA:=Lib.hid (HA.out.pick [1,2,0] [0] (by decide))
      dsimp only [pick,nth] at HA
      generalize w4=wj at HA⊢
      generalize q=qj at HA HT
      generalize m=nj at HA HT⊢
      generalize am=anj at HA⊢
      generalize cm=cnj at HA⊢
     rotate_left
     focus
      go_upto_region 11 with fail
      replace HA:=HA.out.pN (g:=w3.heap.size) rfl m am cm
      clear zr zt yr
      replace HA:=Lib.hid (HA.out.pick [1,2,0] [0] (by decide))
      dsimp only [pick,nth] at HA
      generalize (w3.alloc (.cells #[.int .i64 m.kind,.string m.text,.slice am m.kids.length cm,.int .i64 m.from',.int .i64 m.till] 31))=wj at HA⊢
      generalize q=qj at HA HT
      generalize m=nj at HA HT⊢
      generalize am=anj at HA⊢
      generalize cm=cnj at HA⊢
     all_goals
      obtain⟨zr,zt,zm,-⟩:=HA.out.fs
      have yr:=HA.out.fw 0 rfl
      go_wp2_with fail
      refine HA.out.stepV HT HN (fun _ h e=>P.take hR.ok h.s e) ?_ ?_
      ·intro _ _ _ H;go_wp2_with fail;exact⟨rfl,Ans.badh H⟩
      clear zr zt zm yr HT HA
      intro _ q4 w4 HT HA
      obtain⟨zr,zt,zm,-⟩:=HA.out.fs
      have yr:=HA.out.fw 0 rfl
      go_wp2_with (at_builtin;refine wp_app (by rfl) _ _ _ (by rfl) (by kernel_rfl) nd_info HA.out 0 rfl (by rfl) (g:=w4.heap.size) rfl (by rfl) rfl (by omega) ?_;clear zr zt zm yr HA;intro rr rc w5 HA)
      go_wp2_with fail
      refine HA.out.stepN HT HN (fun _ h e=>hR.h .inner _ _ _ h.s e) ?_ ?_
      ·intro _ _ _ H;go_wp2_with fail;exact⟨rfl,Ans.badh H⟩
      clear HT HA
      intro x ax cx q6 w6 HT HA
      obtain⟨zr,zt,zm,-⟩:=HA.out.fs
      have yr:=HA.out.fw 0 rfl
      go_wp2_with (at_builtin;refine wp_app (by rfl) _ _ _ (by rfl) (by kernel_rfl) nd_info HA.out 0 rfl (by rfl) (g:=w6.heap.size) rfl (by rfl) rfl (by simp;omega) ?_;clear zr zt zm yr HA;intro rr rc w7 HA)
      go_wp2_with fail
      refine HA.out.stepV HT HN (fun _ h e=>P.peek hR.ok 1 h.s e) ?_ ?_
      ·intro _ _ _ H;go_wp2_with fail;exact⟨rfl,Ans.badh H⟩
      clear HT HA
      intro u q8 w8 HT HA
      obtain⟨zr,zt,zm,-⟩:=HA.out.fs
      have yr:=HA.out.fw 0 rfl
      go_wp2_with fail
      refine HA.out.stepQ (fun _ h=>P.punct u ⟨#[125]⟩ _) ?_
      clear zr zt zm yr HA
      intro w9 HA
      obtain⟨zr,zt,zm,-⟩:=HA.out.fs
      have yr:=HA.out.fw 0 rfl
      cases hu:punctT u ⟨#[125]⟩ with
      |true=>
       replace HT:=hpos HT (by exact hu)
       clear zr zt zm yr
       replace HT:=hget HT
       by_cases hah:q8.ahead.isEmpty=false
       ·rw [if_pos hah] at HT
        exact absurd HT.out.symm HN.out
       rw [if_neg hah] at HT
       have hae:q8.ahead= []:=List.isEmpty_iff.1 (by simpa using hah)
       have HAE:=Lib.hid hae
       clear hah hae
       replace HT:=hmod HT
       obtain⟨F8,h8⟩:=HA.out
       obtain⟨pa,ca7,hva⟩:=h8.s.c_ahead0 HAE.out
       have cf:=h8.s.c_from
       have ca:=h8.s.c_at
       have cg:=h8.s.c_goal
       have f1:=h8.s.frozen 1
       have f8:=h8.s.frozen 8
       have lE:=h8.s.lt
       have H8:=Lib.hid h8
       have HVA:=Lib.hid hva
       clear h8 HA
       go_upto_region 20 with fail
       obtain⟨a1,a2⟩:=H8.out.s.set (X:=X0) hR.ok.hb 1 (.int .i64 q8.tok.from') { q8 with at':=q8.tok.from' } (fun _ _ _=>rfl) rfl rfl rfl H8.out.s.nst
       obtain⟨b1,b2⟩:=a1.set (X:=X0) hR.ok.hb 8 (.int .i64 0) { q8 with at':=q8.tok.from',goal:=0 } (fun _ _ _=>rfl) rfl rfl rfl H8.out.s.nst
       have H9:=Lib.hid ((H8.out.call a1 a2).call b1 b2)
       have HP9:=Lib.hid (a2.then b2)
       clear a1 a2 b1 b2 cf ca cg f1 f8 lE hva
       generalize hw9:((w9.setCell ⟨E.b,1,none⟩ (.int .i64 q8.tok.from')).setCell ⟨E.b,8,none⟩ (.int .i64 0))=w9 at H9 HP9⊢
       clear hw9
       go_wp2_with fail
       refine(P.peek3 hR.ok H9.out.s (by exact PM.ne HT.out HN.out)).mono ?_
       intro e w10 ha
       rcases hcases HT HN with ⟨v,q5,hx,hk⟩|⟨c,i,hx,hk⟩
       ·rw [hx.out] at ha
        obtain⟨_,rfl,rfl,hs3,hp3⟩:=ha
        replace HT:=hget hk
        clear hx hk
        by_cases hbh:q5.ahead.isEmpty=false
        ·rw [if_pos hbh] at HT
         exact absurd HT.out.symm HN.out
        rw [if_neg hbh] at HT
        have hbe:q5.ahead= []:=List.isEmpty_iff.1 (by simpa using hbh)
        have HBE:=Lib.hid hbe
        clear hbh hbe
        have H10:=Lib.hid (H9.out.call hs3 hp3)
        have HPa:=Lib.hid (HP9.out.then hp3)
        clear H9 HP9 hs3 hp3
        obtain⟨zr,zt,zm,-⟩:=H10.out.fs
        have yt:BxW w10 gt:=(H10.out.bx _ (nth_mem (i:=1) rfl)).2.1.wr
        go_upto_region 21 with fail
        have H11:=Lib.hid (H10.out.set5 1 rfl rfl (.int .i64 v.kind) (.string v.text) (.int .i64 v.from') (.int .i64 v.till) (.bool v.line))
        dsimp only [setAt] at H11
        have hgt:F8 gt:=(H10.out.bx _ (nth_mem (i:=1) rfl)).1
        have hgE:gt≠E.b:=fun e=>H10.out.s.notF (e▸hgt)
        have HPb:=Lib.hid ((HPa.out.mono (Y:=fun k=>k=gt) (fun _ h=>h.elim)).only' (show Only (fun k=>k=gt) w10 (((((w10.setCell ⟨gt,0,none⟩ (.int .i64 v.kind)).setCell ⟨gt,1,none⟩ (.string v.text)).setCell ⟨gt,2,none⟩ (.int .i64 v.from')).setCell ⟨gt,3,none⟩ (.int .i64 v.till)).setCell ⟨gt,4,none⟩ (.bool v.line)) from Only.lay5 (Only.refl _ _) (.inl rfl)) H10.out.s.lt (fun e=>hgE e.symm) (fun _ e=> .inl e))
        clear zr zt zm yt H10 HPa
        generalize hw11:(((((w10.setCell ⟨gt,0,none⟩ (.int .i64 v.kind)).setCell ⟨gt,1,none⟩ (.string v.text)).setCell ⟨gt,2,none⟩ (.int .i64 v.from')).setCell ⟨gt,3,none⟩ (.int .i64 v.till)).setCell ⟨gt,4,none⟩ (.bool v.line))=w11 at H11 HPb⊢
        clear hw11
        have f7:=H11.out.s.frozen 7
        obtain⟨pb7,cb7,hvb⟩:=H11.out.s.c_ahead0 HBE.out
        have lE:=H11.out.s.lt
        go_upto_region 22 with fail
        obtain⟨c1,c2⟩:=St.resto hR.ok.hb H8.out.s HAE.out HVA.out HPb.out (fun _ e=>e▸hgt) H11.out.s HBE.out
        have HA:Hid (Sa E F X0 w (w11.setCell ⟨E.b,7,none⟩ (.slice pa 0 ca7)) q5 _ _ _):=⟨F8,H11.out.call c1 c2⟩
        clear c1 c2 f7 hvb lE H11 HPb H8 HVA HAE HBE hgt hgE
        generalize hw12:w11.setCell ⟨E.b,7,none⟩ (.slice pa 0 ca7)=w12 at HA⊢
        clear hw12
        obtain⟨zr,zt,zm,-⟩:=HA.out.fs
        have yr:=HA.out.fw 0 rfl
        go_wp2_with fail
        replace HA:=HA.out.pT (g:=w12.heap.size) rfl v
        rw [show (lk++ [(nj,anj,cnj)]).length=lk.length+1 by simp] at HA
        go_roundg k
        case measure=>exact Nat.lt_succ_self k
        case rel=>exact⟨(lk++ [(nj,anj,cnj)])++ [(x,ax,cx)],_,v,w12.heap.size,rfl,by simp;omega,by rw [List.map_append,List.map_append];exact HT,HA.out.pick [1,0] [] (by decide)⟩
       ·rw [hx.out] at ha
        obtain⟨rfl,hp3⟩:=ha
        have H:=Lib.hid (And.intro hk.out (H9.out.p.then hp3))
        go_wp2_with fail
        exact⟨rfl,Ans.badh H⟩
      |false=>
       replace HT:=hneg HT (by rw [hu];decide)
       go_wp2_with fail
       have H:=HA.out.bad HT.out.symm
       refine HA.out.odd ?_
       go_wp2_with fail
       exact⟨rfl,Ans.badh H⟩
   ·rw [if_neg hk] at HT
    by_cases hsz:tv.text.size<2∨16777216<tv.text.size∨escG (tv.text.extract 1 (tv.text.size - 1)).data.toList=false
    ·rw [if_pos hsz] at HT
     exact absurd HT.out.symm HN.out
    rw [if_neg hsz] at HT
    simp only [not_or] at hsz
    obtain⟨hs3,hs24,hesc⟩:=hsz
    have hesc2:escG (tv.text.extract 1 (tv.text.size - 1)).data.toList=true:=by simpa using hesc
    have HESC:=Lib.hid hesc2
    clear hesc hesc2
    simp only [not_or] at hk
    have e8:(tv.kind==8)=false:=kf hk.1
    have e10:(tv.kind==10)=false:=kf hk.2
    clear hk
    go_wp2_with fail
    refine HA.out.leaf 9 tv ?_
    clear zr zt yr HA
    intro n am cm w3 HE HA
    obtain⟨zr,zt,-⟩:=HA.out.fs
    have yr:=HA.out.fw 0 rfl
    have hts:((tv.text.size:Int) - 1).toNat=tv.text.size - 1:=by omega
    have hts1:(1:Int)≤(tv.text.size:Int) - 1:=by omega
    have hts2:(tv.text.size:Int) - 1≤(tv.text.size:Int):=by omega
    go_upto_region 9 with fail
    obtain⟨x,hx⟩: ∃x,tv.text.extract 1 (tv.text.size - 1)=x:=⟨_,rfl⟩
    have hxs:x.size≤16777216:=by rw [←hx,ByteArray.size_extract];omega
    obtain⟨m,hm⟩: ∃m,Nd.mk n.kind x n.kids n.from' n.till=m:=⟨_,rfl⟩
    have HM:=Sa.retext HA.out x
    rw [hm] at HM
    have hm2:aa9 tv 1=m:=by rw [←hm,←HE.out];unfold aa9;rw [hx];rfl
    rw [hm2] at HT
    rw [hx] at HESC
    have e1:n.kind=m.kind:=by rw [←hm];rfl
    have e2:x=m.text:=by rw [←hm];rfl
    have e3:n.kids.length=m.kids.length:=by rw [←hm];rfl
    have e4:n.from'=m.from':=by rw [←hm];rfl
    have e5:n.till=m.till:=by rw [←hm];rfl
    rw [hx]
    rw [e2] at HESC hxs
    simp only [e1,e2,e3,e4,e5]
    replace HA:=Lib.hid HM
    have HXS:=Lib.hid hxs
    clear HM hm hm2 hx e1 e2 e3 e4 e5 HE hts hts1 hts2 hxs
    cases tagged with
    |true=>
     go_upto_region 11 with fail
     replace HA:=HA.out.pN (g:=w3.heap.size) rfl m am cm
     go_wp2_with fail
     refine HA.out.stepV HT HN (fun _ h e=>P.take hR.ok h.s e) ?_ ?_
     ·intro _ _ _ H;go_wp2_with fail;exact⟨rfl,Ans.badh H⟩
     clear zr zt yr HT HA
     intro _ q4 w4 HT HA
     obtain⟨zm,zr,zt,-⟩:=HA.out.fs
     have yr:=HA.out.fw 1 rfl
     go_wp2_with (at_builtin;refine wp_app (by rfl) _ _ _ (by rfl) (by kernel_rfl) nd_info HA.out 0 rfl (by rfl) (g:=w4.heap.size) rfl (by rfl) rfl (by omega) ?_;clear zm zr zt yr HA;intro rr rc w5 HA)
     replace HT:=htail HT
     go_wp2_with fail
     refine HA.out.nodeR 8 ⟨#[]⟩ t.from' (by rw [List.map_append];rfl) HT ?_
     clear HT HA
     intro k2 ak2 ck2 w6 _ HT HA
     obtain⟨zm,zr,zt,-⟩:=HA.out.fs
     have yr:=HA.out.fw 1 rfl
     go_wp2_with fail
     exact HA.out.fin_nd 1 0 rfl rfl rfl rfl rfl HT.out.symm
    |false=>
     go_wp2_with fail
     replace HA:=HA.out.pN (g:=w3.heap.size) rfl m am cm
     refine HA.out.stepQ (fun _ h=>ac9 m.text _ HXS.out HESC.out (hR.ok.lx.bel h.s.bel)) ?_
     clear zr zt yr HA
     intro w4 HA
     obtain⟨zm,zr,zt,-⟩:=HA.out.fs
     have yr:=HA.out.fw 1 rfl
     go_upto_region 11 with fail
     go_wp2_with fail
     refine HA.out.stepV HT HN (fun _ h e=>P.take hR.ok h.s e) ?_ ?_
     ·intro _ _ _ H;go_wp2_with fail;exact⟨rfl,Ans.badh H⟩
     clear zm zr zt yr HT HA
     intro _ q5 w5 HT HA
     obtain⟨zm,zr,zt,-⟩:=HA.out.fs
     have yr:=HA.out.fw 1 rfl
     go_wp2_with (at_builtin;refine wp_app (by rfl) _ _ _ (by rfl) (by kernel_rfl) nd_info HA.out 0 rfl (by rfl) (g:=w5.heap.size) rfl (by rfl) rfl (by omega) ?_;clear zm zr zt yr HA;intro rr rc w6 HA)
     replace HT:=htail HT
     go_wp2_with fail
     refine HA.out.nodeR 8 ⟨#[]⟩ t.from' (by rw [List.map_append];rfl) HT ?_
     clear HT HA
     intro k2 ak2 ck2 w7 _ HT HA
     obtain⟨zm,zr,zt,-⟩:=HA.out.fs
     have yr:=HA.out.fw 1 rfl
     go_wp2_with fail
     exact HA.out.fin_nd 1 0 rfl rfl rfl rfl rfl HT.out.symm
end
section
open Go.RowKit
theorem Holds.out {E:PE} {R:(x:Fn)→PM x.Out} {x:Fn} (h: ∀p,R x p= .out):Holds E R x:=by
 cases x<;>(dsimp only [Holds];intros;rename_i hn;exact absurd (h _) hn)
theorem aj0 {E:PE} (hE:E.Ok): ∀f,f≤1073741824→∀x,Holds E (runQ E.s E.m f) x
 |0,_=>fun _=>Holds.out fun _=>rfl
 |f+1,hf=>fun x=>by
  have hR:Env E (runQ E.s E.m f):=⟨hE,aj0 hE f (by omega)⟩
  exact match x with
  | .expression=>fun _ _ _ h hne=>S.expression hR f (by omega) h hne
  | .inner=>fun _ _ _ h hne=>S.inner hR h hne
  | .innerAssign=>fun _ _ _ h hne=>S.innerAssign hR h hne
  | .assign=>fun _ _ _ h hne=>S.assign hR h hne
  | .cond=>fun _ _ _ h hne=>S.cond hR h hne
  | .unary=>fun _ _ _ h hne=>S.unary hR h hne
  | .args=>fun _ _ _ h hne=>S.args hR h hne
  | .spread=>fun _ _ _ h hne=>S.spread hR h hne
  | .index=>fun _ _ _ h hne=>S.index hR h hne
  | .program=>fun _ _ _ h hne=>S.program hR h hne
  | .arrowOf t=>fun _ _ _ h hne=>S.arrowOf hR t h hne
  | .body text from' ps=>fun _ _ _ v hn h hne=>S.body hR text from' ps v hn h hne
  | .assigned n=>fun _ _ _ v hn h hne=>S.assigned hR n v hn h hne
  | .param n last=>fun _ _ _ v hn h hne=>S.param n last v hn h hne
  | .params n=>fun _ _ _ v hn h hne=>S.params hR n v hn h hne
  | .binary least nullish=>fun _ _ _ _ h hne=>S.binary hR f least nullish h hne
  | .operand least=>fun _ _ _ h hne=>S.operand hR least h hne
  | .link n calls templates=>fun _ _ _ v hn h hne=>S.link hR n calls templates v hn h hne
  | .optional n=>fun _ _ _ v hn h hne=>S.optional hR n v hn h hne
  | .chain n=>fun _ _ _ v hn h hne=>S.chain hR f n v hn h hne
  | .leftHand=>fun _ _ _ h hne=>S.leftHand hR f h hne
  | .base t calls=>fun _ _ _ h hne=>S.base hR t calls h hne
  | .new from'=>fun _ _ _ h hne=>S.new hR f from' h hne
  | .primary t=>fun _ _ _ h hne=>S.primary hR t h hne
  | .named t=>fun _ _ _ h hne=>S.named hR t h hne
  | .paren t=>fun _ _ _ h hne=>S.parenR hR t h hne
  | .statements dir top e=>fun _ _ _ _ hend h hne=>S.statementsD hR f (by omega) dir top e hend h hne
  | .statement t list=>fun _ _ _ h hne=>S.statementX hR t list h hne
  | .simple t=>fun _ _ _ h hne=>S.simple hR t h hne
  | .arguments from'=>fun _ _ _ h hne=>S.arguments hR f from' h hne
  | .template b=>fun _ _ _ h hne=>S.templateX hR f b h hne
  | .yield=>fun _ _ _ h hne=>S.yield hR h hne
  | .returned t=>fun _ _ _ h hne=>S.returned hR t h hne
  | .jump t=>fun _ _ _ h hne=>S.jump hR t h hne
  | .declaration must=>fun _ _ _ h hne=>S.declaration hR must h hne
  | .funcs must=>fun _ _ _ h hne=>S.funcs hR must h hne
  | .callable text from' id of=>fun _ _ _ v hn h hne=>S.callable hR text from' id of v hn h hne
  | .formals of=>fun _ _ _ h hne=>S.formals hR f of h hne
  | .function=>fun _ _ _ h hne=>S.function hR h hne
  | .block=>fun _ _ _ h hne=>S.block hR h hne
  | .modular t top=>fun _ _ _ h hne=>S.modular t top h hne
  | .array=>Holds.out fun _=>rfl
  | .binding=>Holds.out fun _=>rfl
  | .arrayPattern=>Holds.out fun _=>rfl
  | .objectPattern=>Holds.out fun _=>rfl
  | .object=>Holds.out fun _=>rfl
  | .prop=>Holds.out fun _=>rfl
  | .element2=>Holds.out fun _=>rfl
  | .alone=>Holds.out fun _=>rfl
  | .head=>Holds.out fun _=>rfl
  | .element1=>Holds.out fun _=>rfl
  | .takeText=>Holds.out fun _=>rfl
  | .fromText=>Holds.out fun _=>rfl
  | .outer=>Holds.out fun _=>rfl
  | .plain _=>Holds.out fun _=>rfl
  | .element _ _ _=>Holds.out fun _=>rfl
  | .takeKey _=>Holds.out fun _=>rfl
  | .members _=>Holds.out fun _=>rfl
  | .method _=>Holds.out fun _=>rfl
  | .defaulted _=>Holds.out fun _=>rfl
  | .cls _=>Holds.out fun _=>rfl
  | .declared _ _=>Holds.out fun _=>rfl
  | .branch _=>Holds.out fun _=>rfl
  | .tried _=>Holds.out fun _=>rfl
  | .switched _=>Holds.out fun _=>rfl
  | .loop _=>Holds.out fun _=>rfl
  | .through _ _ _=>Holds.out fun _=>rfl
  | .counted _ _=>Holds.out fun _=>rfl
  | .imported _=>Holds.out fun _=>rfl
  | .specs _=>Holds.out fun _=>rfl
  | .exported _=>Holds.out fun _=>rfl
  | .defaultOf _=>Holds.out fun _=>rfl
  | .markup _=>Holds.out fun _=>rfl
  | .attr _=>Holds.out fun _=>rfl
  | .children _=>Holds.out fun _=>rfl
  | .closing _ _=>Holds.out fun _=>rfl
  | .jname _=>Holds.out fun _=>rfl
theorem ae3 {w:World} {L B:Nat} {a:Option Addr} {ks:List Nd} (h:RowP w L B ks a 0) (j:Nat) (hj:j<ks.length):
  ∃g off b cap,a=some ⟨g,off,none⟩∧g<B∧w.cell? ⟨g,off+j*5,none⟩=some (.int .i64 ks[j].kind)∧w.cell? ⟨g,off+j*5+1,none⟩=some (.string ks[j].text)∧
   w.cell? ⟨g,off+j*5+2,none⟩=some (.slice b ks[j].kids.length cap)∧w.cell? ⟨g,off+j*5+3,none⟩=some (.int .i64 ks[j].from')∧w.cell? ⟨g,off+j*5+4,none⟩=some (.int .i64 ks[j].till)∧
   NdV w L B ks[j] (.agg #[.int .i64 ks[j].kind,.string ks[j].text,.slice b ks[j].kids.length cap,.int .i64 ks[j].from',.int .i64 ks[j].till]):=by
 obtain⟨g,off,ha,hn⟩:=RowP_get h j hj
 rw [Nat.zero_add,NdC_eq] at hn
 obtain⟨b,cap,_,h3,c0,c1,c2,c3,c4,hc,hr⟩:=hn
 exact⟨g,off,b,cap,ha,h3,c0,c1,c2,c3,c4,b,cap,rfl,hc,hr⟩
theorem am7 (s:ByteArray) (m:Bool) (f:Nat) (hs:s.size≤1048576) (hf:f≤1073741824) (w:World) (hx:Lx w) (hne:ad0 s m f≠ .out):
  Calls Tryz.prog 14 #[.string s,.bool m] w fun e w'=>ExA (ad0 s m f) e w'∧Below w.heap.size w w':=
 Expr_any hs w hx (fun E F w1 p hE h1 h2 hst hn=>by
  subst h1 h2
  exact S.expr1 ⟨hE,aj0 hE f hf⟩ hst hn) hne
theorem ag8 (s:ByteArray) (m:Bool) (f:Nat) (hs:s.size≤1048576) (hf:f≤1073741824) (w:World) (hx:Lx w) (hne:ab2 s m f≠ .out):
  Calls Tryz.prog 13 #[.string s,.bool m] w fun e w'=>PgA (ab2 s m f) e w'∧Below w.heap.size w w':=
 Program_any hs w hx (fun E F w1 p hE h1 h2 hst hn=>by
  subst h1 h2
  exact aj0 hE f hf .program F w1 p hst hn) hne
end
section
def sumQ:Res Nd→Option (Int × Nat × Nat)
 | .ok n q=>some (n.kind,n.kids.length,q.cms.length)
 |_=>none
def badQ:Res Nd→Option (Int × Int)
 | .bad c i=>some (c,i)
 |_=>none
theorem ar0:(sumQ (ab2 ⟨#[97,32,47,47,32,99,10,43,43,98]⟩ false 40)).map (·.2)=some (2,1):=by decide+kernel
theorem aq7:(sumQ (ad0 ⟨#[40,97,44,32,98,41,32,61,62,32,97]⟩ false 40)).map (·.1)=some 22:=by decide+kernel
theorem ap7:badQ (ab2 ⟨#[97,32,63,63,32,98,32,124,124,32,99]⟩ false 40)=some (1001,7):=by decide+kernel
end
section
def opsL:List ByteArray:= [⟨#[124,124]⟩,⟨#[38,38]⟩,⟨#[124]⟩,⟨#[94]⟩,⟨#[38]⟩,⟨#[61,61]⟩,⟨#[33,61]⟩,⟨#[61,61,61]⟩,⟨#[33,61,61]⟩,⟨#[60]⟩,⟨#[62]⟩,⟨#[60,61]⟩,⟨#[62,61]⟩,⟨#[105,110]⟩,⟨#[105,110,115,116,97,110,99,101,111,102]⟩,⟨#[60,60]⟩,⟨#[62,62]⟩,⟨#[62,62,62]⟩,⟨#[43]⟩,⟨#[45]⟩,⟨#[42]⟩,⟨#[47]⟩,⟨#[37]⟩,⟨#[42,42]⟩,⟨#[63,63]⟩]
end
section
open Go.RowKit
theorem aj8 (x:Int) (w:World):Calls Tryz.prog 15 #[.int .i64 x] w fun e w'=>e= .returned (.int .i64 x)∧w'=w:=by
 go_enter Tryz.func15,Tryz.ntmps15
 go_wp2_with fail
 go_ret
 exact⟨rfl,rfl⟩
end
end Go.Proofs.YtnahajcjpmbflaaGreatDoor
