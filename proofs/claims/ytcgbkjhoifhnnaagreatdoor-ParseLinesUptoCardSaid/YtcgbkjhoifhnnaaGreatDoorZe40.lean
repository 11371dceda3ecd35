/- Steps (NsP NsB). Conditions: as stated. -/
import Derived.Test.YtcgbkjhoifhnnaaGreatDoorZe38
namespace Go.Proofs.YtcgbkjhoifhnnaaGreatDoor
section
open Go.RowKit
section
variable {s:ByteArray} {m:Bool} {i j g ne ar ar2 c0 k0:Int} {t u v w tk:Tk} {n k:Nd} {p q:Ps} {f:Nat}
structure Opn (c:UInt8) (t:Tk):Prop where
 kind:t.kind=5
 text:t.text=⟨#[c]⟩
theorem Opn.name {c:UInt8} (h:Opn c t) (x:ByteArray):nameT t x=false:=ag5 (by rw [h.kind];decide)
theorem Opn.no {c:UInt8} (h:Opn c t) {x:ByteArray} (hx:(⟨#[c]⟩:ByteArray)≠x):punctT t x=false:=aG0 (by rw [h.text];exact hx)
theorem Opn.yes {c:UInt8} (h:Opn c t):punctT t ⟨#[c]⟩=true:=by
 unfold punctT
 rw [h.kind,h.text]
 simp
theorem Opn.slash {c:UInt8} (h:Opn c t) (hc:c≠47):ai1 t=false:=by
 unfold ai1
 rw [h.text]
 exact ad7 hc
variable {C':CsC} [C:CsC]
theorem bv2 (h2:t.kind≠2) (hy:nameT t ⟨#[121,105,101,108,100]⟩=false) (ha:nameT t ⟨#[97,115,121,110,99]⟩=false) (hp:ab2 s 2 p= .ok t (Zs i t g 1 ne ar)) (hs:ab2 s 2 (Zs i t g 1 (ne+1) t.from')= .ok t (Zs i t g 1 (ne+1) t.from'))
  (hun:runQ s m (f+1) .unary (Zs i t g 1 (ne+1) t.from')= .ok n (@Zs C' j u 1 1 (ne+1) ar2)) (hk:n.kind≠22) (hu:Cls u) (hv:Sees s 1 t.till v) (hvr:punctT v ⟨#[61,62]⟩=false) (h0:0≤ne) (h1:ne<4000):
  runQ s m (f+5) .assign p= .ok n (@Zs C' j u 1 1 ne ar2):=by
 have e1:runQ s m (f+2) (.operand 1) (Zs i t g 1 (ne+1) t.from')= .ok n (@Zs C' j u 1 1 (ne+1) ar2):=(aF3 (f:=f+1) 1 hs h2).trans hun
 have e2:runQ s m (f+3) (.binary 1 false) (Zs i t g 1 (ne+1) t.from')= .ok n (@Zs C' j u 1 1 (ne+1) ar2):=be9 (C:=C') (f:=f+1) e1 hk hu.stp
 have e3:runQ s m (f+4) .cond (Zs i t g 1 (ne+1) t.from')= .ok n (@Zs C' j u 1 1 (ne+1) ar2):=aY2 (C:=C') (f:=f+3) e2 hk hu.q
 exact ap4 (f:=f+4) hy ha hp hv hvr h0 h1 e3 (at8 (C:=C') (f:=f+3) hk hu.asg)
end
end
section
open Go.RowKit
section
variable {s:ByteArray}
theorem bb9 {m:Bool} {t:Tk} {f:Nat} (p:Ps):runQ s m (f+1) (.modular t false) p= .ok .zero p:=rfl
theorem bs5 {m:Bool} {t:Tk} {f:Nat} {i g fl ne ar:Int} {r:Res Nd} (hs:runQ s m (f+1) (.statement t true) (Zs i t g fl (ne+1) ar)=r):
  (do
    let m'←runQ s m (f+1) (.modular t false)
    if m'.kind=0 then runQ s m (f+1) (.statement t true) else return m':PM Nd) (Zs i t g fl (ne+1) ar)=r:=by
 rw [PM.go (bb9 _),if_pos (show Nd.zero.kind=0 from rfl)]
 exact hs
end
end
end Go.Proofs.YtcgbkjhoifhnnaaGreatDoor
