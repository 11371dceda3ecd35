/- Steps (NsP). Conditions: as stated. -/
import Derived.Test.YtokfgpjclmdllaaGreatDoorPn38
namespace Go.Proofs.YtokfgpjclmdllaaGreatDoor
section
open Go.RowKit
section
variable {s:ByteArray} {m:Bool} {i j g ne ar ar2 c0 k0:Int} {t u v w tk:Tk} {n k:Nd} {p q:Ps} {f:Nat}
structure Opn (c:UInt8) (t:Tk):Prop where
 kind:t.kind=5
 text:t.text=⟨#[c]⟩
theorem Opn.name {c:UInt8} (h:Opn c t) (x:ByteArray):nameT t x=false:=bd1 (by rw [h.kind];decide)
theorem Opn.no {c:UInt8} (h:Opn c t) {x:ByteArray} (hx:(⟨#[c]⟩:ByteArray)≠x):punctT t x=false:=aP6 (by rw [h.text];exact hx)
theorem Opn.yes {c:UInt8} (h:Opn c t):punctT t ⟨#[c]⟩=true:=by
 unfold punctT
 rw [h.kind,h.text]
 simp
theorem bx8 (x:Nat):Cls (endT x):=⟨by0 x,rfl,rfl,rfl,rfl⟩
theorem bE5 (h2:t.kind≠2) (hy:nameT t ⟨#[121,105,101,108,100]⟩=false) (ha:nameT t ⟨#[97,115,121,110,99]⟩=false) (hp:ab4 s 2 p= .ok t (Zs i t g 1 ne ar)) (hs:ab4 s 2 (Zs i t g 1 (ne+1) t.from')= .ok t (Zs i t g 1 (ne+1) t.from'))
  (hun:runQ s m (f+1) .unary (Zs i t g 1 (ne+1) t.from')= .ok n (Zs j u 1 1 (ne+1) ar2)) (hk:n.kind≠22) (hu:Cls u) (hv:Sees s 1 t.till v) (hvr:punctT v ⟨#[61,62]⟩=false) (h0:0≤ne) (h1:ne<4000):
  runQ s m (f+5) .assign p= .ok n (Zs j u 1 1 ne ar2):=by
 have e1:runQ s m (f+2) (.operand 1) (Zs i t g 1 (ne+1) t.from')= .ok n (Zs j u 1 1 (ne+1) ar2):=(aT6 (f:=f+1) 1 hs h2).trans hun
 have e2:runQ s m (f+3) (.binary 1 false) (Zs i t g 1 (ne+1) t.from')= .ok n (Zs j u 1 1 (ne+1) ar2):=bf9 (f:=f+1) e1 hk hu.stp
 have e3:runQ s m (f+4) .cond (Zs i t g 1 (ne+1) t.from')= .ok n (Zs j u 1 1 (ne+1) ar2):=bv5 (f:=f+3) e2 hk hu.q
 exact aG9 (f:=f+4) hy ha hp hv hvr h0 h1 e3 (aH0 (f:=f+3) hk hu.asg)
end
end
end Go.Proofs.YtokfgpjclmdllaaGreatDoor
