/- Steps (SgP AsP AsL). Conditions: as stated. -/
import Derived.Test.YtcgbkjhoifhnnaaGreatDoorZe36
namespace Go.Proofs.YtcgbkjhoifhnnaaGreatDoor
section
open Go.RowKit
section
variable {s:ByteArray} {m:Bool} {i g fl ne ar:Int} {u v t d b e:Tk} {n:Nd} {p:Ps} {f:Nat}
def sgB (t:Tk):Bool:=nameT t ⟨#[100,101,108,101,116,101]⟩||nameT t ⟨#[118,111,105,100]⟩||nameT t ⟨#[116,121,112,101,111,102]⟩||punctT t ⟨#[43]⟩||punctT t ⟨#[45]⟩||punctT t ⟨#[126]⟩||punctT t ⟨#[33]⟩
structure SgT (o:Tk):Prop where
 k2:o.kind≠2
 yi:nameT o ⟨#[121,105,101,108,100]⟩=false
 asy:nameT o ⟨#[97,115,121,110,99]⟩=false
 aw:nameT o ⟨#[97,119,97,105,116]⟩=false
 arr:punctT o ⟨#[61,62]⟩=false
def Sg1 (o:Tk):Prop:=sgB o=true∧o.text≠⟨#[43,43]⟩∧o.text≠⟨#[45,45]⟩
def Sg2 (o:Tk):Prop:=sgB o=false∧(punctT o ⟨#[43,43]⟩||punctT o ⟨#[45,45]⟩)=true
def SgR (s:ByteArray) (e:Tk):Int→List Tk→Prop
 |i,[]=> ∃t d b:Tk,Nm t∧Sees s 2 i t∧Sees s 1 i t∧Sees s 1 t.till d∧punctT d ⟨#[46]⟩=true∧Sees s 1 d.till b∧b.kind=1∧Sees s 1 b.till e∧t.text=⟨#[97]⟩∧b.text=⟨#[98]⟩
 |i,o::l=>Sees s 2 i o∧Sees s 1 i o∧SgT o∧(Sg1 o∨(Sg2 o∧l= []))∧SgR s e o.till l
theorem SgR.head {l:List Tk} (h:SgR s e i l): ∃v,Sees s 2 i v∧Sees s 1 i v∧v.kind≠2∧nameT v ⟨#[121,105,101,108,100]⟩=false∧nameT v ⟨#[97,115,121,110,99]⟩=false∧punctT v ⟨#[61,62]⟩=false:=by
 cases l with
 |nil=>
  obtain⟨t,d,b,h1,h2,h3,_⟩:=h
  exact⟨t,h2,h3,by rw [h1.kind];decide,h1.nameT (by decide),ae3 h1.asy,h1.punctT _⟩
 |cons o l=>exact⟨o,h.1,h.2.1,h.2.2.1.k2,h.2.2.1.yi,h.2.2.1.asy,h.2.2.1.arr⟩
theorem bo4 {k:Int} {x:ByteArray} {a:Nd} {y z:Int} (h: ¬k=26):ac6 (.mk k x [a] y z)= .mk k x [ac6 a] 0 0:=by
 rw [ac6,if_neg h,aa1,aa1]
theorem be9 [C:CsC] (ho:runQ s m (f+1) (.operand 1) p= .ok n (Zs i u 1 1 ne ar)) (hk:n.kind≠22) (hu:Stp u):runQ s m (f+2) (.binary 1 false) p= .ok n (Zs i u 1 1 ne ar):=by
 show ak9 s (f+1) (runQ s m (f+1)) 1 false p=_
 unfold ak9
 rw [PM.go ho,if_neg hk]
 obtain⟨r,r1,r2⟩:=aF4 (s:=s) (i:=i) (ne:=ne) (ar:=ar) hu
 unfold ak9.opsL
 rw [PM.go r2,if_pos (.inr r1)]
 rfl
theorem aF3 [C:CsC] (least:Int) (hp:ab2 s 2 p= .ok v (Zs i v g fl ne ar)) (hk:v.kind≠2):runQ s m (f+1) (.operand least) p=runQ s m f .unary (Zs i v g fl ne ar):=by
 show am7 s (runQ s m f) least p=_
 unfold am7
 rw [PM.go hp,if_pos hk]
theorem bd8 [C:CsC] (hv:nameT v ⟨#[97,115,121,110,99]⟩=false) (hu:Sees s 1 v.till u) (har:punctT u ⟨#[61,62]⟩=false):ai7.single s m v (Zs i v g fl ne ar)= .ok false (Zs i v g fl ne ar):=by
 unfold ai7.single
 rw [PM.go (ap1 _),if_neg (by rw [hv];decide)]
 show((pure v:PM Tk)>>=_) _=_
 rw [PM.go (show(pure v:PM Tk) (Zs i v g fl ne ar)= .ok v (Zs i v g fl ne ar) from rfl),PM.go (aY9 hu _),if_pos (by rw [har];simp)]
 rfl
theorem ap4 {C':CsC} [C:CsC] {i' g' fl' ar' i2 g2 fl2 ar2:Int} {u' u2:Tk} {n2:Nd} (hy:nameT v ⟨#[121,105,101,108,100]⟩=false) (hv:nameT v ⟨#[97,115,121,110,99]⟩=false) (hp:ab2 s 2 p= .ok v (Zs i v g fl ne ar)) (hu:Sees s 1 v.till u) (har:punctT u ⟨#[61,62]⟩=false) (h0:0≤ne) (h1:ne<4000)
  (hc:runQ s m f .cond (Zs i v g fl (ne+1) v.from')= .ok n (@Zs C' i' u' g' fl' (ne+1) ar')) (ha:runQ s m f (.assigned n) (@Zs C' i' u' g' fl' (ne+1) ar')= .ok n2 (@Zs C' i2 u2 g2 fl2 (ne+1) ar2)):
  runQ s m (f+1) .assign p= .ok n2 (@Zs C' i2 u2 g2 fl2 ne ar2):=by
 show ai7 s m (runQ s m f) p=_
 unfold ai7
 rw [PM.go hp]
 refine aC2 h0 h1 ?_
 rw [PM.go (ap1 _),if_neg (by rw [hy];simp),PM.go (bd8 hv hu har),if_neg (by decide)]
 rw [PM.go (show modP (fun q=> { q with arrow:=v.from' }) (Zs i v g fl (ne+1) ar)= .ok () (Zs i v g fl (ne+1) v.from') from rfl),PM.go hc]
 exact ha
end
end
section
open Go.RowKit
section
variable {s:ByteArray} {m:Bool} {i g fl ne ar:Int} {u v t d b e:Tk} {n:Nd} {p:Ps} {f:Nat}
theorem aD4 [C:CsC] (f:Nat) (h:Nm v) (hg:g=1∨g=2) (hp:ab2 s 2 p= .ok v (Zs i v g 1 ne ar)) (hu:Sees s 1 v.till u) (hst:Stp u):runQ s m (f+7) (.binary 1 false) p= .ok (aa8 1 v) (Zs v.till u 1 1 ne ar):=
 be9 (bk1 f 1 h hg hp hst.e hu) (as5 v) hst
theorem ap5 [C:CsC] (f:Nat) (h:Nm v) (hg:g=1∨g=2) (hp:ab2 s 2 p= .ok v (Zs i v g 1 ne ar)) (hu:Sees s 1 v.till u) (hst:Stp u) (hq:punctT u ⟨#[63]⟩=false) (ha:ae6 u=false) (har:punctT u ⟨#[61,62]⟩=false) (h0:0≤ne) (h1:ne<4000):
  runQ s m (f+9) .assign p= .ok (aa8 1 v) (Zs v.till u 1 1 ne v.from'):=
 ap4 (ae3 (h.ne (by decide))) (ae3 h.asy) hp hu har h0 h1 (aY2 (aD4 f h hg (ac3 hg h.sl (by decide)) hu hst) (as5 v) hq) (at8 (as5 v) ha)
theorem aN0 {r:Nd} {j ar2:Int} (hk:n.kind≠22) (ht:ah1 n=true) (hz:aa2 n≤4194304) (ha:ae6 u=true) (hr:runQ s m f .assign (Zs u.till u 0 fl ne ar)= .ok r (Zs j e 1 fl ne ar2)):
  runQ s m (f+1) (.assigned n) (Zs i u 1 fl ne ar)= .ok (.mk 30 u.text [n,r] n.from' j) (Zs j e 1 fl ne ar2):=by
 show aj8 s (runQ s m f) n _=_
 unfold aj8
 rw [if_neg hk,PM.go (ac1 (by decide)),if_pos ha]
 have h2:(if u.text=⟨#[61]⟩ then ao7 n else do
   am2 n
   return n:PM Nd) (Zs i u 1 fl ne ar)= .ok n (Zs i u 1 fl ne ar):=by
  split
  ·unfold ao7
   rw [PM.go (ap1 _),if_neg (by show¬((!([]:List Int).isEmpty && _)=true);simp)]
   unfold aY3
   rw [if_pos (by rw [ht,decide_eq_true hz];rfl)]
   rfl
  ·unfold am2
   rw [if_pos ht]
   rfl
 rw [PM.go h2,PM.go ak6,PM.go hr]
 rfl
theorem bJ6:setF 1 1 0=1:=by first|rfl|decide|kernel_rfl
theorem ba6 {C':CsC} [C:CsC] {α:Type} {x:PM α} {y:α} {i' g' ar':Int} {u':Tk} (hx:x (Zs i u g 1 ne ar)= .ok y (@Zs C' i' u' g' 1 ne ar')):an0 1 0 x (Zs i u g 1 ne ar)= .ok y (@Zs C' i' u' g' 1 ne ar'):=by
 have e:({ Zs i u g 1 ne ar with flags:=setF (Zs i u g 1 ne ar).flags 1 0 } :Ps)=Zs i u g 1 ne ar:=by
  show(⟨i,u,[],g,[],setF 1 1 0,ne,ar,C.cs⟩:Ps)=_
  rw [bJ6]
  rfl
 unfold an0
 rw [e]
 unfold PM.bind
 rw [hx]
 rfl
theorem bo6 {t r:Nd} {i2 j ar2 ar3:Int} (hb:runQ s m (f+1) (.binary 1 false) p= .ok n (Zs i u 1 1 ne ar)) (hk:n.kind≠22) (hq:punctT u ⟨#[63]⟩=true) (ht:runQ s m f .assign (Zs u.till u 0 1 ne ar)= .ok t (Zs i2 d 1 1 ne ar2)) (hd:punctT d ⟨#[58]⟩=true)
  (hr:runQ s m (f+1) .assign (Zs d.till d 0 1 ne ar2)= .ok r (Zs j e 1 1 ne ar3)):runQ s m (f+2) .cond p= .ok (.mk 31 ⟨#[]⟩ [n,t,r] n.from' j) (Zs j e 1 1 ne ar3):=by
 show aK8 s (runQ s m (f+1)) p=_
 unfold aK8
 rw [PM.go hb,if_neg hk,PM.go (bi2 (ac1 (by decide)) hq),if_pos rfl]
 have h2:runQ s m (f+1) .innerAssign (Zs u.till u 0 1 ne ar)= .ok t (Zs i2 d 1 1 ne ar2):=by
  show ah9 (runQ s m f) _=_
  unfold ah9
  exact ba6 ht
 rw [PM.go h2,PM.go (ar7 (ac1 (by decide)) hd),PM.go hr]
 rfl
def AsR (s:ByteArray) (e:Tk):Int→List (Tk × Tk × Option (Tk × Tk))→Prop
 |i,[]=> ∃v:Tk,Nm v∧v.text=⟨#[118]⟩∧Sees s 2 i v∧Sees s 1 i v∧Sees s 1 v.till e
 |i,(a,o,none)::l=>Nm a∧a.text=⟨#[97]⟩∧Sees s 2 i a∧Sees s 1 a.till o∧Stp o∧punctT o ⟨#[61,62]⟩=false∧punctT o ⟨#[63]⟩=false∧ae6 o=true∧AsR s e o.till l
 |i,(a,o,some (t,d))::l=>Nm a∧a.text=⟨#[99]⟩∧Sees s 2 i a∧Sees s 1 a.till o∧Stp o∧punctT o ⟨#[61,62]⟩=false∧punctT o ⟨#[63]⟩=true∧
   Nm t∧t.text=⟨#[116]⟩∧Sees s 2 o.till t∧Sees s 1 t.till d∧Stp d∧punctT d ⟨#[58]⟩=true∧AsR s e d.till l
theorem AsR.head {l:List (Tk × Tk × Option (Tk × Tk))} (h:AsR s e i l): ∃v,Sees s 2 i v∧Nm v:=by
 match l,h with
 | [],⟨v,h1,_,h2,_⟩=>exact⟨v,h2,h1⟩
 |(a,o,none)::l,⟨h1,_,h2,_⟩=>exact⟨a,h2,h1⟩
 |(a,o,some (t,d))::l,⟨h1,_,h2,_⟩=>exact⟨a,h2,h1⟩
theorem ac4 {k:Int} {x:ByteArray} {ks:List Nd} {y z:Int} (h: ¬k=26):ac6 (.mk k x ks y z)= .mk k x (aa1 ks) 0 0:=by
 rw [ac6,if_neg h]
end
end
section
open Go.RowKit
end
end Go.Proofs.YtcgbkjhoifhnnaaGreatDoor
