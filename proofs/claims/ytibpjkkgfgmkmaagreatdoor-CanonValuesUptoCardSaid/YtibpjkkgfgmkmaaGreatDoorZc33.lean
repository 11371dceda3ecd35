/- Steps (SgP AsP AsL). Conditions: as stated. -/
import Derived.Test.YtibpjkkgfgmkmaaGreatDoorZc32
namespace Go.Proofs.YtibpjkkgfgmkmaaGreatDoor
section
open Go.RowKit
section
variable {s:ByteArray} {m:Bool} {i g fl ne ar:Int} {u v t d b e:Tk} {n:Nd} {p:Ps} {f:Nat}
def sgB (t:Tk):Bool:=nameT t ⟨#[100,101,108,101,116,101]⟩||nameT t ⟨#[118,111,105,100]⟩||nameT t ⟨#[116,121,112,101,111,102]⟩||punctT t ⟨#[43]⟩||punctT t ⟨#[45]⟩||punctT t ⟨#[126]⟩||punctT t ⟨#[33]⟩
structure SgT (o:Tk):Prop where
 k2:o.kind≠2
 yi:nameT o ⟨#[121,105,101,108,100]⟩=false
 asy:nameT o ⟨#[97,115,121,110,99]⟩=false
 aw:nameT o ⟨#[97,119,97,105,116]⟩=false
 arr:punctT o ⟨#[61,62]⟩=false
def Sg1 (o:Tk):Prop:=sgB o=true∧o.text≠⟨#[43,43]⟩∧o.text≠⟨#[45,45]⟩
def Sg2 (o:Tk):Prop:=sgB o=false∧(punctT o ⟨#[43,43]⟩||punctT o ⟨#[45,45]⟩)=true
def SgR (s:ByteArray) (e:Tk):Int→List Tk→Prop
 |i,[]=> ∃t d b:Tk,Nm t∧Sees s 2 i t∧Sees s 1 i t∧Sees s 1 t.till d∧punctT d ⟨#[46]⟩=true∧Sees s 1 d.till b∧b.kind=1∧Sees s 1 b.till e∧t.text=⟨#[97]⟩∧b.text=⟨#[98]⟩
 |i,o::l=>Sees s 2 i o∧Sees s 1 i o∧SgT o∧(Sg1 o∨(Sg2 o∧l= []))∧SgR s e o.till l
theorem SgR.head {l:List Tk} (h:SgR s e i l): ∃v,Sees s 2 i v∧Sees s 1 i v∧v.kind≠2∧nameT v ⟨#[121,105,101,108,100]⟩=false∧nameT v ⟨#[97,115,121,110,99]⟩=false∧punctT v ⟨#[61,62]⟩=false:=by
 cases l with
 |nil=>
  obtain⟨t,d,b,h1,h2,h3,_⟩:=h
  exact⟨t,h2,h3,by rw [h1.kind];decide,h1.nameT (by decide),aN8 h1.asy,h1.punctT _⟩
 |cons o l=>exact⟨o,h.1,h.2.1,h.2.2.1.k2,h.2.2.1.yi,h.2.2.1.asy,h.2.2.1.arr⟩
theorem bI3 [C:CsC] (ho:runQ s m (f+1) (.operand 1) p= .ok n (Zs i u 1 1 ne ar)) (hk:n.kind≠22) (hu:Stp u):runQ s m (f+2) (.binary 1 false) p= .ok n (Zs i u 1 1 ne ar):=by
 show ae1 s (f+1) (runQ s m (f+1)) 1 false p=_
 unfold ae1
 rw [PM.go ho,if_neg hk]
 obtain⟨r,r1,r2⟩:=av5 (s:=s) (i:=i) (ne:=ne) (ar:=ar) hu
 unfold ae1.opsL
 rw [PM.go r2,if_pos (.inr r1)]
 rfl
theorem av4 [C:CsC] (least:Int) (hp:ac5 s 2 p= .ok v (Zs i v g fl ne ar)) (hk:v.kind≠2):runQ s m (f+1) (.operand least) p=runQ s m f .unary (Zs i v g fl ne ar):=by
 show aq4 s (runQ s m f) least p=_
 unfold aq4
 rw [PM.go hp,if_pos hk]
theorem bk4 [C:CsC] (hv:nameT v ⟨#[97,115,121,110,99]⟩=false) (hu:Sees s 1 v.till u) (har:punctT u ⟨#[61,62]⟩=false):ai2.single s m v (Zs i v g fl ne ar)= .ok false (Zs i v g fl ne ar):=by
 unfold ai2.single
 rw [PM.go (aI3 _),if_neg (by rw [hv];decide)]
 show((pure v:PM Tk)>>=_) _=_
 rw [PM.go (show(pure v:PM Tk) (Zs i v g fl ne ar)= .ok v (Zs i v g fl ne ar) from rfl),PM.go (bG1 hu _),if_pos (by rw [har];simp)]
 rfl
theorem aJ4 {C':CsC} [C:CsC] {i' g' fl' ar' i2 g2 fl2 ar2:Int} {u' u2:Tk} {n2:Nd} (hy:nameT v ⟨#[121,105,101,108,100]⟩=false) (hv:nameT v ⟨#[97,115,121,110,99]⟩=false) (hp:ac5 s 2 p= .ok v (Zs i v g fl ne ar)) (hu:Sees s 1 v.till u) (har:punctT u ⟨#[61,62]⟩=false) (h0:0≤ne) (h1:ne<4000)
  (hc:runQ s m f .cond (Zs i v g fl (ne+1) v.from')= .ok n (@Zs C' i' u' g' fl' (ne+1) ar')) (ha:runQ s m f (.assigned n) (@Zs C' i' u' g' fl' (ne+1) ar')= .ok n2 (@Zs C' i2 u2 g2 fl2 (ne+1) ar2)):
  runQ s m (f+1) .assign p= .ok n2 (@Zs C' i2 u2 g2 fl2 ne ar2):=by
 show ai2 s m (runQ s m f) p=_
 unfold ai2
 rw [PM.go hp]
 refine bx6 h0 h1 ?_
 rw [PM.go (aI3 _),if_neg (by rw [hy];simp),PM.go (bk4 hv hu har),if_neg (by decide)]
 rw [PM.go (show modP (fun q=> { q with arrow:=v.from' }) (Zs i v g fl (ne+1) ar)= .ok () (Zs i v g fl (ne+1) v.from') from rfl),PM.go hc]
 exact ha
end
end
section
open Go.RowKit
section
variable {s:ByteArray} {m:Bool} {i g fl ne ar:Int} {u v t d b e:Tk} {n:Nd} {p:Ps} {f:Nat}
theorem bT2:setF 1 1 0=1:=by first|rfl|decide|kernel_rfl
theorem bH5 {C':CsC} [C:CsC] {α:Type} {x:PM α} {y:α} {i' g' ar':Int} {u':Tk} (hx:x (Zs i u g 1 ne ar)= .ok y (@Zs C' i' u' g' 1 ne ar')):az2 1 0 x (Zs i u g 1 ne ar)= .ok y (@Zs C' i' u' g' 1 ne ar'):=by
 have e:({ Zs i u g 1 ne ar with flags:=setF (Zs i u g 1 ne ar).flags 1 0 } :Ps)=Zs i u g 1 ne ar:=by
  show(⟨i,u,[],g,[],setF 1 1 0,ne,ar,C.cs⟩:Ps)=_
  rw [bT2]
  rfl
 unfold az2
 rw [e]
 unfold PM.bind
 rw [hx]
 rfl
def AsR (s:ByteArray) (e:Tk):Int→List (Tk × Tk × Option (Tk × Tk))→Prop
 |i,[]=> ∃v:Tk,Nm v∧v.text=⟨#[118]⟩∧Sees s 2 i v∧Sees s 1 i v∧Sees s 1 v.till e
 |i,(a,o,none)::l=>Nm a∧a.text=⟨#[97]⟩∧Sees s 2 i a∧Sees s 1 a.till o∧Stp o∧punctT o ⟨#[61,62]⟩=false∧punctT o ⟨#[63]⟩=false∧af1 o=true∧AsR s e o.till l
 |i,(a,o,some (t,d))::l=>Nm a∧a.text=⟨#[99]⟩∧Sees s 2 i a∧Sees s 1 a.till o∧Stp o∧punctT o ⟨#[61,62]⟩=false∧punctT o ⟨#[63]⟩=true∧
   Nm t∧t.text=⟨#[116]⟩∧Sees s 2 o.till t∧Sees s 1 t.till d∧Stp d∧punctT d ⟨#[58]⟩=true∧AsR s e d.till l
theorem AsR.head {l:List (Tk × Tk × Option (Tk × Tk))} (h:AsR s e i l): ∃v,Sees s 2 i v∧Nm v:=by
 match l,h with
 | [],⟨v,h1,_,h2,_⟩=>exact⟨v,h2,h1⟩
 |(a,o,none)::l,⟨h1,_,h2,_⟩=>exact⟨a,h2,h1⟩
 |(a,o,some (t,d))::l,⟨h1,_,h2,_⟩=>exact⟨a,h2,h1⟩
end
end
section
open Go.RowKit
end
end Go.Proofs.YtibpjkkgfgmkmaaGreatDoor
