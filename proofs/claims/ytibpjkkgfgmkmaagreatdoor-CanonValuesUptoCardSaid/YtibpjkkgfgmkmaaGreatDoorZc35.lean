/- Steps (NsP NsB). Conditions: as stated. -/
import Derived.Test.YtibpjkkgfgmkmaaGreatDoorZc34
namespace Go.Proofs.YtibpjkkgfgmkmaaGreatDoor
section
open Go.RowKit
section
variable {s:ByteArray} {m:Bool} {i j g ne ar ar2 c0 k0:Int} {t u v w tk:Tk} {n k:Nd} {p q:Ps} {f:Nat}
structure Opn (c:UInt8) (t:Tk):Prop where
 kind:t.kind=5
 text:t.text=⟨#[c]⟩
theorem Opn.name {c:UInt8} (h:Opn c t) (x:ByteArray):nameT t x=false:=ad7 (by rw [h.kind];decide)
theorem Opn.no {c:UInt8} (h:Opn c t) {x:ByteArray} (hx:(⟨#[c]⟩:ByteArray)≠x):punctT t x=false:=bt0 (by rw [h.text];exact hx)
theorem Opn.yes {c:UInt8} (h:Opn c t):punctT t ⟨#[c]⟩=true:=by
 unfold punctT
 rw [h.kind,h.text]
 simp
theorem Opn.slash {c:UInt8} (h:Opn c t) (hc:c≠47):as7 t=false:=by
 unfold as7
 rw [h.text]
 exact ae0 hc
theorem aV5 (hk:k.kind≠18) (p:Ps):am9 s k p= .ok () p:=by
 unfold am9
 rw [if_neg hk]
 rfl
theorem bE8 {c:UInt8} (hc:c=40∨c=91) (ht:Opn c t) (p:Ps):runQ s m (f+2) (.base t true) p=(if c=40 then runQ s m f (.paren t) p else runQ s m f .array p):=by
 show au9 s m (runQ s m (f+1)) t true p=_
 unfold au9
 rw [if_neg (by rw [ht.name];decide),if_neg (by rw [ht.name];decide),if_neg (by rw [ht.name];decide)]
 show ag0 (runQ s m f) t p=_
 have hk:=ht.kind
 unfold ag0
 rw [if_neg (by omega),if_neg (by omega),if_neg (by omega),if_neg (by omega)]
 rcases hc with rfl|rfl
 ·rw [if_neg (by rw [ht.no (by decide)];decide),if_neg (by rw [ht.no (by decide)];decide),if_pos ht.yes,if_pos rfl]
 ·rw [if_pos ht.yes,if_neg (by decide)]
variable {C':CsC} [C:CsC]
theorem aP0 (hv:punctT v ⟨#[46,46,46]⟩=false) (h:runQ s m f .assign (Zs i v 2 1 ne ar)= .ok k q):runQ s m (f+1) .spread (Zs i v 2 1 ne ar)= .ok k q:=by
 show aw0 s (runQ s m f) _=_
 unfold aw0
 rw [PM.go (ac9 (by decide)),if_neg (by rw [hv];decide)]
 exact h
end
end
section
open Go.RowKit
end
end Go.Proofs.YtibpjkkgfgmkmaaGreatDoor
