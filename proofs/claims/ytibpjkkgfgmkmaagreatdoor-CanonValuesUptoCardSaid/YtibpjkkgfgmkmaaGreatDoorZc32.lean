/- Steps (Tk OpP Lx OpL OpE Ly). Conditions: as stated. -/
import Derived.Test.YtibpjkkgfgmkmaaGreatDoorZc09
namespace Go.Proofs.YtibpjkkgfgmkmaaGreatDoor
section
open Go.RowKit
class CsC where
 cs:List (Int × Int)
instance (priority:=low) CsC.none:CsC:=⟨[]⟩
def Zs [C:CsC] (i:Int) (t:Tk) (g fl ne ar:Int):Ps:=⟨i,t,[],g,[],fl,ne,ar,C.cs⟩
def Sees (s:ByteArray) (g:Int) (i:Int) (t:Tk):Prop:=0≤i∧i≤(s.size:Int)∧∃q n,nxt s i.toNat g= .fine t.kind q n t.line []∧tkOf s t.kind q n t.line=t
def as7 (t:Tk):Bool:=Lib.hasPrefix t.text.data.toList [47]
theorem PM.go {α β:Type} {x:PM α} {f:α→PM β} {p q:Ps} {a:α} (h:x p= .ok a q):(x>>=f) p=f a q:=by
 show PM.bind x f p=_
 unfold PM.bind
 rw [h]
section
variable {s:ByteArray} {g g' i fl ne ar:Int} {t tk:Tk}
theorem bG1 (h:Sees s 1 i t) (p:Ps):ax5 s i p= .ok t p:=by
 obtain⟨h0,h1,q,n,h2,h3⟩:=h
 unfold ax5 bq5
 rw [h2,if_neg (by rintro(h|h|h);omega;omega;cases h)]
 simp only
 rw [h3]
 rfl
variable {C':CsC} [C:CsC]
theorem ah7 (h:Sees s g i t):ac5 s g (Zs i tk 0 fl ne ar)= .ok t (Zs i t g fl ne ar):=by
 obtain⟨h0,h1,q,n,h2,h3⟩:=h
 unfold ac5 am8 Zs
 rw [if_neg (by simp)]
 unfold bd6
 simp only
 rw [if_neg (by omega),h2]
 simp only
 rw [h3]
theorem ac9 (hg:g≠0):ac5 s g (Zs i t g fl ne ar)= .ok t (Zs i t g fl ne ar):=by
 unfold ac5 am8 Zs
 rw [if_pos (by simp [hg])]
theorem aO1 (h1:g'≠0) (h2:g'≤2) (h3:g≤2) (hs:as7 t=false):ac5 s g (Zs i t g' fl ne ar)= .ok t (Zs i t g' fl ne ar):=by
 unfold as7 at hs
 unfold ac5 am8 Zs
 rw [if_pos (by simp [h1,h2,h3,hs])]
theorem au6:af4 (Zs i t g fl ne ar)= .ok t (Zs t.till t 0 fl ne ar):=rfl
theorem bK2 {x:ByteArray} (hp:ac5 s 1 (Zs i tk g' fl ne ar)= .ok t (Zs i t g fl ne ar)) (h:punctT t x=false):isP s x (Zs i tk g' fl ne ar)= .ok false (Zs i t g fl ne ar):=by
 unfold isP
 rw [PM.go hp,if_neg (by rw [h];decide)]
 rfl
theorem bg2 {x:ByteArray} (hp:ac5 s 1 (Zs i tk g' fl ne ar)= .ok t (Zs i t g fl ne ar)) (h:punctT t x=true):au1 s x (Zs i tk g' fl ne ar)= .ok t (Zs t.till t 0 fl ne ar):=by
 unfold au1
 rw [PM.go hp,if_pos h]
 rfl
end
structure Nm (t:Tk):Prop where
 kind:t.kind=1
 res:ak3 t.text resW=false
 aw:t.text≠⟨#[97,119,97,105,116]⟩
 asy:t.text≠⟨#[97,115,121,110,99]⟩
 sl:as7 t=false
theorem bB8 {t:ByteArray} {l:List ByteArray} (h:ak3 t l=false) {x:ByteArray} (hx:ak3 x l=true):t≠x:=by
 rintro rfl
 rw [h] at hx
 cases hx
theorem Nm.ne {t:Tk} (h:Nm t) {x:ByteArray} (hx:ak3 x resW=true):t.text≠x:=bB8 h.res hx
theorem Nm.nameT {t:Tk} (h:Nm t) {x:ByteArray} (hx:ak3 x resW=true):nameT t x=false:=by
 unfold Go.Proofs.YtibpjkkgfgmkmaaGreatDoor.nameT
 rw [decide_eq_false (h.ne hx),Bool.and_false]
theorem Nm.punctT {t:Tk} (h:Nm t) (x:ByteArray):punctT t x=false:=by
 unfold Go.Proofs.YtibpjkkgfgmkmaaGreatDoor.punctT
 rw [h.kind]
 rfl
theorem Nm.ident {t:Tk} (h:Nm t) (m:Bool) (fl:Int):al5 m fl t=true:=by
 unfold al5 aa1
 rw [if_neg h.aw,h.res,h.kind,decide_eq_true h.aw]
 simp
theorem aN8 {t:Tk} {x:ByteArray} (h:t.text≠x):nameT t x=false:=by
 unfold nameT
 rw [decide_eq_false h,Bool.and_false]
theorem ae7 {t:Tk} {x:ByteArray} (h:t.kind≠5):punctT t x=false:=by
 unfold punctT
 rw [decide_eq_false h,Bool.false_and]
theorem bt0 {t:Tk} {x:ByteArray} (h:t.text≠x):punctT t x=false:=by
 unfold punctT
 rw [decide_eq_false h,Bool.and_false]
theorem ad7 {t:Tk} {x:ByteArray} (h:t.kind≠1):nameT t x=false:=by
 unfold nameT
 rw [decide_eq_false h,Bool.false_and]
structure Endy (u:Tk):Prop where
 dot:punctT u ⟨#[46]⟩=false
 brk:punctT u ⟨#[91]⟩=false
 par:punctT u ⟨#[40]⟩=false
 opt:punctT u ⟨#[63,46]⟩=false
 k7:u.kind≠7
 k8:u.kind≠8
 inc:punctT u ⟨#[43,43]⟩=false
 dec:punctT u ⟨#[45,45]⟩=false
section
variable {s:ByteArray} {m:Bool} {g i fl ne ar:Int} {t u tk:Tk}
theorem aI3 (p:Ps):getP p= .ok p p:=rfl
variable {C':CsC} [C:CsC]
theorem bL7 (f:Nat) (h:Nm t) (hg:g=1∨g=2):runQ s m (f+1) (.named t) (Zs i t g fl ne ar)= .ok (ah2 1 t) (Zs t.till t 0 fl ne ar):=by
 show aF9 s m (runQ s m f) t _=_
 have h1:ak3 t.text [⟨#[116,104,105,115]⟩,⟨#[110,117,108,108]⟩,⟨#[116,114,117,101]⟩,⟨#[102,97,108,115,101]⟩]=false:=by
  unfold ak3
  rw [List.any_eq_false]
  intro x hx
  simp only [List.mem_cons,List.not_mem_nil,or_false] at hx
  rcases hx with rfl|rfl|rfl|rfl<;>(rw [decide_eq_false (h.ne (by decide))];decide)
 unfold aF9
 rw [if_neg (by rw [h1];decide),if_neg (h.ne (by decide)),if_neg (h.ne (by decide)),if_neg h.asy]
 unfold al2
 have hp:ac5 s 1 (Zs i t g fl ne ar)= .ok t (Zs i t g fl ne ar):=aO1 (by omega) (by omega) (by omega) h.sl
 rw [PM.go hp]
 show(if al5 m fl t then _ else _:PM Nd) _=_
 rw [if_pos (h.ident m fl),PM.go au6]
 rfl
theorem bP3 (f:Nat) (h:Nm t) (hg:g=1∨g=2) (calls:Bool):runQ s m (f+3) (.base t calls) (Zs i t g fl ne ar)= .ok (ah2 1 t) (Zs t.till t 0 fl ne ar):=by
 show au9 s m (runQ s m (f+2)) t calls _=_
 unfold au9
 rw [if_neg (by rw [h.nameT (by decide)];decide),if_neg (by rw [h.nameT (by decide)];decide),if_neg (by rw [h.nameT (by decide)];decide)]
 show ag0 (runQ s m (f+1)) t _=_
 have hk:=h.kind
 unfold ag0
 rw [if_neg (by omega),if_neg (by omega),if_neg (by omega),if_pos hk]
 exact bL7 f h hg
theorem bq2 (f:Nat) (n:Nd) (calls tmpl:Bool) (hu:Endy u) (hp:ac5 s 1 (Zs i tk g fl ne ar)= .ok u (Zs i u 1 fl ne ar)):runQ s m (f+1) (.link n calls tmpl) (Zs i tk g fl ne ar)= .ok (n,false) (Zs i u 1 fl ne ar):=by
 show aN6 s (runQ s m f) n calls tmpl _=_
 unfold aN6
 rw [PM.go hp,if_neg (by rw [hu.dot];decide),if_neg (by rw [hu.brk];decide),if_neg (by rw [hu.par];simp),if_neg (by have:=hu.k7;have:=hu.k8;omega)]
 rfl
end
end
section
open Go.RowKit
structure Opr (o:Tk):Prop where
 op:(decide (o.kind≠5) && !nameT o ⟨#[105,110,115,116,97,110,99,101,111,102]⟩ && !nameT o ⟨#[105,110]⟩)=false
 lo:2≤ab2 o.text
 hi:ab2 o.text≤12
 star:ab2 o.text=12↔o.text=⟨#[42,42]⟩
 e:Endy o
structure Stp (u:Tk):Prop where
 op:(decide (u.kind≠5) && !nameT u ⟨#[105,110,115,116,97,110,99,101,111,102]⟩ && !nameT u ⟨#[105,110]⟩)=true∨ab2 u.text=0
 e:Endy u
section
variable {s:ByteArray}
def Row (s:ByteArray):Int→List (Tk × Tk)→Tk→Prop
 |i,[],e=>Sees s 1 i e
 |i,x::l,e=>Sees s 1 i x.1∧Opr x.1∧Sees s 2 x.1.till x.2∧Nm x.2∧Row s x.2.till l e
def bR0:Tk→List (Tk × Tk)→Tk
 |v,[]=>v
 |_,x::l=>bR0 x.2 l
def bQ0:List (Tk × Tk)→Tk→Tk
 | [],e=>e
 |x::_,_=>x.1
theorem Row.drop {e:Tk} : ∀ {a b:List (Tk × Tk)} {v:Tk},Row s v.till (a++b) e→Row s (bR0 v a).till b e
 | [],_,_,h=>h
 |x::a,_,_,h=>Row.drop (a:=a) (v:=x.2) h.2.2.2.2
theorem Row.head {l:List (Tk × Tk)} {i:Int} {e:Tk} (h:Row s i l e):Sees s 1 i (bQ0 l e):=by
 cases l with
 |nil=>exact h
 |cons x l=>exact h.1
theorem Row.endy {l:List (Tk × Tk)} {i:Int} {e:Tk} (h:Row s i l e) (he:Stp e):Endy (bQ0 l e):=by
 cases l with
 |nil=>exact he.e
 |cons x l=>exact h.2.1.e
variable {m:Bool}
theorem aK4 {i ne ar:Int} {o:Tk} (h:Opr o):ah3 s (Zs i o 1 1 ne ar)= .ok (o,ab2 o.text) (Zs i o 1 1 ne ar):=by
 unfold ah3
 rw [PM.go (ac9 (by decide)),PM.go (aI3 _)]
 have h1:=h.op
 have h2:hasF 1 1=true:=by decide
 show(if (decide (o.kind≠5) && !nameT o ⟨#[105,110,115,116,97,110,99,101,111,102]⟩ && (!nameT o ⟨#[105,110]⟩|| !hasF 1 1))=true then _ else _:PM (Tk × Int)) _=_
 rw [h2,Bool.not_true,Bool.or_false,if_neg (by rw [h1];decide)]
 rfl
theorem av5 [C:CsC] {i ne ar:Int} {u:Tk} (h:Stp u): ∃r:Tk × Int,r.2=0∧ah3 s (Zs i u 1 1 ne ar)= .ok r (Zs i u 1 1 ne ar):=by
 unfold ah3
 rw [PM.go (ac9 (by decide)),PM.go (aI3 _)]
 have h2:hasF 1 1=true:=by decide
 show∃r:Tk × Int,r.2=0∧(if (decide (u.kind≠5) && !nameT u ⟨#[105,110,115,116,97,110,99,101,111,102]⟩ && (!nameT u ⟨#[105,110]⟩|| !hasF 1 1))=true then _ else _:PM (Tk × Int)) _=_
 rw [h2,Bool.not_true,Bool.or_false]
 rcases h.op with h1|h1
 ·rw [if_pos h1]
  exact⟨_,rfl,rfl⟩
 ·split
  ·exact⟨_,rfl,rfl⟩
  ·exact⟨_,h1,rfl⟩
end
end
section
open Go.RowKit
section
variable {s:ByteArray} {p:Nat}
theorem bV1 {c:UInt8} {l:List UInt8} (hd:s.data.toList.drop p=c::l):p<s.size:=by
 have h:=congrArg List.length hd
 rw [List.length_drop,List.length_cons] at h
 show p<s.data.size
 rw [←Array.length_toList]
 omega
theorem bO4 {c:UInt8} {l:List UInt8} (hd:s.data.toList.drop p=c::l):s.data.toList.drop (p+1)=l:=by
 rw [←List.drop_drop,hd]
 rfl
theorem aL6 {a l:List UInt8} (hd:s.data.toList.drop p=a++l):s.data.toList.drop (p+a.length)=l:=by
 rw [←List.drop_drop,hd,List.drop_left]
theorem aH7 {a l:List UInt8} (hd:s.data.toList.drop p=a++l) (hp:p≤s.size):p+a.length≤s.size:=by
 have h:=congrArg List.length hd
 rw [List.length_drop,List.length_append] at h
 have h2:s.data.toList.length=s.size:=Array.length_toList
 omega
theorem aD7 {a l:List UInt8} (hd:s.data.toList.drop p=a++l):s.extract p (p+a.length)=⟨a.toArray⟩:=by
 apply aQ1
 rw [ByteArray.data_extract,Array.toList_extract,List.extract_eq_take_drop,hd,Nat.add_sub_cancel_left,List.take_left]
def Ink (l:List UInt8):Prop:=aq9 l=false∧∀p,0<p→ag7 p l=0
theorem aV4 {l:List UInt8} {line:Bool} (hd:s.data.toList.drop p=l) (hp:p≤s.size) (h:aq9 l=false∧ag7 p l=0):btw s p line= .fine p line []:=by
 rw [aM6 s p line hp,hd,if_neg (by rw [h.1];decide),if_pos h.2]
theorem bR5 {g:Int} (hg:g=1∨g=2) {q:Nat} {line:Bool} {kind:Int} {n:Nat} (hb:btw s p false= .fine q line []) (ht:af8 g (s.data.toList.drop q)= .fine kind n):nxt s p g= .fine kind q n line []:=by
 unfold nxt tokT
 rcases hg with rfl|rfl<;>
 ·rw [if_neg (by rintro(h|h|⟨h,_⟩)<;>omega),if_neg (by decide),hb]
  simp only
  rw [if_neg (by decide),if_neg (by decide),if_neg (by decide),ht]
def endT (p:Nat):Tk:=⟨0,⟨#[]⟩,p,p,false⟩
theorem bf4 {g:Int} (hg:g=1∨g=2) (hd:s.data.toList.drop p= []) (hp:p≤s.size):Sees s g p (endT p):=by
 refine⟨by omega,by omega,p,0,?_,?_⟩
 ·rw [Int.toNat_natCast]
  refine bR5 hg (aV4 hd hp ⟨rfl,?_⟩) ?_
  ·unfold ag7
   rw [if_neg (by decide),if_neg (by decide),if_neg (by simp [Lib.hasPrefix])]
  ·rw [hd]
   rfl
 ·unfold tkOf endT
  have:s.extract p (p+0)=⟨#[]⟩:=aD7 (a:= []) (l:= []) hd
  rw [this]
  simp
end
def bl3 (c:UInt8):Bool:=decide (c.toNat<128) && az9 (c.toNat:Int)
theorem aK6 {l:List UInt8} (hl:al4 false l=false): ∀(a:List UInt8),(∀c ∈ a,bl3 c=true)→ag9 false (a++l)=a.length
 | [],_=>ay0 hl
 |c::a,h=>by
  have hc:=h c (.head _)
  unfold bl3 at hc
  rw [Bool.and_eq_true,decide_eq_true_eq] at hc
  have hg:al4 false (c::(a++l))=true:=by
   unfold al4
   rw [ad8 _ _ hc.1,hc.2]
   rfl
  rw [List.cons_append,at4 hg,ad8 _ _ hc.1]
  show 1+ag9 false (a++l)=_
  rw [aK6 hl a (fun c hc=>h c (.tail _ hc)),List.length_cons]
  omega
theorem br1 {c:UInt8} {a l:List UInt8} (hc:c.toNat<128) (hs:ad0 (c.toNat:Int)=true) (ha: ∀c ∈ a,bl3 c=true) (hl:al4 false l=false):am1 false (c::(a++l))=a.length+1:=by
 have hw: ∀x ∈ c::a,bl3 x=true:=by
  intro x hx
  rcases List.mem_cons.1 hx with rfl|hx
  ·unfold bl3 az9
   rw [decide_eq_true hc,hs]
   rfl
  ·exact ha x hx
 unfold am1
 rw [ad8 _ _ hc,if_pos ⟨show (0:Int)<1 by decide,hs⟩,←List.cons_append,aK6 hl _ hw,List.length_cons]
@[reducible] def low (c:UInt8):Prop:=97≤c.toNat∧c.toNat≤122
theorem ae0 {c d:UInt8} {l w:List UInt8} (h:c≠d):Lib.hasPrefix (c::l) (d::w)=false:=by
 unfold Lib.hasPrefix
 rw [List.isPrefixOf_cons_cons,beq_eq_false_iff_ne.2 (Ne.symm h),Bool.false_and]
theorem bi7 {g:Int} {c:UInt8} {a l:List UInt8} (hlo:low c) (hs:ad0 (c.toNat:Int)=true) (ha: ∀c ∈ a,bl3 c=true) (hl:al4 false l=false) (hl2:0≤(nx l).2):
  af8 g (c::a++l)= .fine 1 (c::a).length:=by
 obtain⟨h1,h2⟩:=hlo
 have hn: ∀d:UInt8,d.toNat<97→c≠d:=by rintro d hd rfl;omega
 have hdig:ai9 (c::(a++l))=false:=by
  unfold ai9
  rw [decide_eq_false_iff_not]
  omega
 have hw:=br1 (l:=l) (by omega) hs ha hl
 rw [List.cons_append]
 unfold af8
 rw [if_neg (by simp),if_neg (by rw [ae0 (hn _ (by decide))];decide),if_neg (by rw [ae0 (hn _ (by decide))];decide),if_neg (by rw [hdig,ae0 (hn 46 (by decide))];simp),if_neg (by rw [ae0 (hn _ (by decide)),ae0 (hn _ (by decide))];simp),if_neg (by rw [ae0 (hn _ (by decide))];simp),hw,if_pos (by omega)]
 unfold aft
 rw [show (c::(a++l)).drop (a.length+1)=l by rw [List.drop_succ_cons,List.drop_left],if_neg (by omega),List.length_cons]
theorem bH4 {f:Nat→Bool} {m:Nat} (h:(List.range m).all f=true) (n:Nat) (hn:n<m):f n=true:=List.all_eq_true.1 h n (List.mem_range.2 hn)
theorem bJ7:(List.range 127).all (fun n=>decide (n<33)|| !(aq8 (n:Int)||au3 (n:Int)))=true:=by kernel_rfl
theorem bL6:(List.range 127).all (fun n=>decide (n<97∨122<n)||ad0 (n:Int))=true:=by kernel_rfl
theorem bQ5 {c:UInt8} {l:List UInt8} (h1:33≤c.toNat) (h2:c.toNat<127) (h3:c≠47) (h4:c≠35):Ink (c::l):=by
 refine⟨?_,fun p hp=> ?_⟩
 ·unfold aq9
  rw [ad8 _ _ (by omega)]
  show(decide ((0:Int)<1) && (aq8 (c.toNat:Int)||au3 (c.toNat:Int)))=false
  have h:=(Bool.or_eq_true _ _).mp (bH4 bJ7 c.toNat h2)
  rw [Bool.not_eq_true',decide_eq_true_eq] at h
  rw [h.resolve_left (by omega),Bool.and_false]
 ·unfold ag7
  rw [if_neg (by rw [ae0 h3];decide),if_neg (by rw [ae0 h3];decide),if_neg (by rw [ae0 h4];simp)]
theorem bq6 {c:UInt8} (h:low c):ad0 (c.toNat:Int)=true:=by
 obtain⟨h1,h2⟩:=h
 have h:=bH4 bL6 c.toNat (by omega)
 simp only [Bool.or_eq_true,decide_eq_true_eq] at h
 exact h.resolve_left (by omega)
end
section
open Go.RowKit
def bR3 (c:UInt8):Bool:=decide (c.toNat<128) && !ad0 (c.toNat:Int) && decide (c≠96∧c≠35∧c≠46∧c≠39∧c≠34∧¬(48≤c.toNat∧c.toNat≤57))
def row2 (x:List UInt8 × List UInt8):ByteArray × ByteArray:=(⟨x.1.toArray⟩,⟨(118::x.2).toArray⟩)
end
section
open Go.RowKit
section
variable {s:ByteArray} {m:Bool} {i g fl ne ar:Int} {u v:Tk} {n:Nd} {p:Ps} {f:Nat}
variable {C':CsC} [C:CsC]
theorem bF1 (hb:runQ s m f (.binary 1 false) p= .ok n (Zs i u 1 fl ne ar)) (hk:n.kind≠22) (hq:punctT u ⟨#[63]⟩=false):runQ s m (f+1) .cond p= .ok n (Zs i u 1 fl ne ar):=by
 show aV6 s (runQ s m f) p=_
 unfold aV6
 rw [PM.go hb,if_neg hk,PM.go (bK2 (ac9 (by decide)) hq),if_neg (by decide)]
 rfl
theorem aJ5 (hk:n.kind≠22) (ha:af1 u=false):runQ s m (f+1) (.assigned n) (Zs i u 1 fl ne ar)= .ok n (Zs i u 1 fl ne ar):=by
 show am7 s (runQ s m f) n _=_
 unfold am7
 rw [if_neg hk,PM.go (ac9 (by decide)),if_neg (by rw [ha];decide)]
 rfl
theorem bx6 {α:Type} {x:PM α} {i':Int} {u':Tk} {g' fl' ar' place:Int} {a:α} (h0:0≤ne) (h1:ne<4000) (hx:x (Zs i u g fl (ne+1) ar)= .ok a (@Zs C' i' u' g' fl' (ne+1) ar')):ag4 place x (Zs i u g fl ne ar)= .ok a (@Zs C' i' u' g' fl' ne ar'):=by
 unfold ag4
 show(if 4000≤ne then _ else _)=_
 rw [if_neg (by omega)]
 show PM.bind x _ (Zs i u g fl (ne+1) ar)=_
 unfold PM.bind
 rw [hx]
 show(if ne+1≤0 then _ else _)=_
 rw [if_neg (by omega)]
 show Res.ok a (@Zs C' _ _ _ _ (ne+1 - 1) _)=_
 rw [Int.add_sub_cancel]
 rfl
theorem aR6 (ha:runQ s m f .assign p= .ok n (Zs i u 1 fl ne ar)) (hc:punctT u ⟨#[44]⟩=false):runQ s m (f+1) .expression p= .ok n (Zs i u 1 fl ne ar):=by
 show af9 s f (runQ s m f) p=_
 unfold af9
 rw [PM.go ha,PM.go (ac9 (by decide)),if_neg (by rw [hc];decide)]
 rfl
theorem bP8 (he:runQ s m f .expression (ps0 m)= .ok n (Zs i u 1 fl ne ar)) (hu:u.kind=0) (hn:ad9 n=true) (hz:aa0 n≤8000):aB9 s m f= .ok n (Zs i u 1 fl ne ar):=by
 have hd:=bn8 n
 unfold aB9 aO3 aK1
 rw [PM.go (show _=Res.ok n (Zs i u 1 fl ne ar) by rw [PM.go he,PM.go (ac9 (by decide)),if_pos hu];rfl),if_neg (by rw [hn];decide),if_neg (by omega),if_neg (by omega)]
 rfl
end
end
section
open Go.RowKit
section
variable {s:ByteArray} {p:Nat}
def Ink0 (l:List UInt8):Prop:=aq9 l=false∧∀p,ag7 p l=0
theorem bK1 {c:UInt8} {l:List UInt8} (h1:33≤c.toNat) (h2:c.toNat<127) (h3:c≠47) (h4:c≠35):Ink0 (c::l):=by
 refine⟨(bQ5 h1 h2 h3 h4).1,fun p=> ?_⟩
 unfold ag7
 rw [if_neg (by rw [ae0 h3];decide),if_neg (by rw [ae0 h3];decide),if_neg (by rw [ae0 h4];simp)]
end
theorem aG7 {g:Int} {c:UInt8} {l:List UInt8} {n:Nat} (hc:bR3 c=true) (h47:c≠47) (hp:pct g (c::l)=n) (hn:n≠0):af8 g (c::l)= .fine 5 n:=by
 unfold bR3 at hc
 rw [Bool.and_eq_true,Bool.and_eq_true,decide_eq_true_eq,decide_eq_true_eq,Bool.not_eq_true'] at hc
 obtain⟨⟨h1,h2⟩,h3,h4,h5,h6,h7,h8⟩:=hc
 have hdig:ai9 (c::l)=false:=by
  unfold ai9
  rw [decide_eq_false_iff_not]
  exact h8
 have hname:am1 false (c::l)=0:=by
  unfold am1
  rw [ad8 _ _ h1,if_neg]
  rintro⟨_,h⟩
  simp only at h
  rw [h2] at h
  cases h
 unfold af8
 rw [if_neg (by simp),if_neg (by rw [ae0 h3];decide),if_neg (by rw [ae0 h4];decide),if_neg (by rw [hdig,ae0 h5];simp),if_neg (by rw [ae0 h6,ae0 h7];simp),if_neg (by rintro⟨_,h⟩;rw [ae0 h47] at h;cases h),if_neg (by rw [hname];simp),hp,if_pos hn]
theorem bG7 {g:Int} {c:UInt8} {l:List UInt8} (h:c≠47):pct g (c::l)=match aj6.find? (aC3 (c::l)) with|some w=>w.length|none=>0:=by
 unfold pct
 rw [if_neg (by rintro⟨_,h1⟩;rw [ae0 h] at h1;cases h1),if_neg (by rintro⟨_,h1⟩;rw [ae0 h] at h1;cases h1)]
 rfl
end
end Go.Proofs.YtibpjkkgfgmkmaaGreatDoor
