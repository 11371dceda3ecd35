/- Steps (DrP Tat). Conditions: as stated. -/
import Derived.Test.YtokfgpjclmdllaaGreatDoorPn40
namespace Go.Proofs.YtokfgpjclmdllaaGreatDoor
section
open Go.RowKit
section
variable {s:ByteArray} {m:Bool} {i j ne ar ar2:Int} {t u v w b o e:Tk} {n r:Nd} {p:Ps} {f:Nat}
structure Tat (s:ByteArray) (p:Nat) (kind:Int) (x:ByteArray) (l:List UInt8) (p':Nat) (t:Tk):Prop where
 kind:t.kind=kind
 text:t.text=x
 till:t.till=(p':Int)
 sees: ∀g:Int,g=1∨g=2→Sees s g p t
 rest:s.data.toList.drop p'=l
 le:p'≤s.size
theorem Tat.nm {p p':Nat} {l:List UInt8} (h:Tat s p 1 ⟨#[98]⟩ l p' t):Nm t:=⟨h.kind,by rw [h.text];decide,by rw [h.text];decide,by rw [h.text];decide,by unfold aQ0;rw [h.text];exact ah4 (by decide)⟩
theorem Tat.go {k:Int} {x:ByteArray} {p p':Nat} {l:List UInt8} (h:Tat s p k x l p' t):t.till=(p':Int):=h.till
end
end
section
open Go.RowKit
theorem bv8 {c:UInt8} (l:List UInt8) (h:c.toNat<128) (hp:at6 ((c.toNat:Nat):Int)=false):al3 false (c::l)=false∧0≤(nx (c::l)).2:=by
 refine⟨?_,by rw [af1 _ _ h];exact(show(0:Int)≤1 by decide)⟩
 unfold al3
 rw [af1 _ _ h]
 simp only [hp,Bool.false_and,Bool.or_false,Bool.and_false]
end
end Go.Proofs.YtokfgpjclmdllaaGreatDoor
