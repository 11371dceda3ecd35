/- Steps (NsP). Conditions: as stated. -/
import Derived.Test.YtcgbkjhoifhnnaaGreatDoorPn39
namespace Go.Proofs.YtcgbkjhoifhnnaaGreatDoor
section
open Go.RowKit
section
variable {s:ByteArray} {m:Bool} {i j g ne ar ar2 c0 k0:Int} {t u v w tk:Tk} {n k:Nd} {p q:Ps} {f:Nat}
structure Opn (c:UInt8) (t:Tk):Prop where
 kind:t.kind=5
 text:t.text=⟨#[c]⟩
theorem Opn.name {c:UInt8} (h:Opn c t) (x:ByteArray):nameT t x=false:=bc4 (by rw [h.kind];decide)
theorem Opn.no {c:UInt8} (h:Opn c t) {x:ByteArray} (hx:(⟨#[c]⟩:ByteArray)≠x):punctT t x=false:=ay2 (by rw [h.text];exact hx)
theorem Opn.yes {c:UInt8} (h:Opn c t):punctT t ⟨#[c]⟩=true:=by
 unfold punctT
 rw [h.kind,h.text]
 simp
theorem aR3 (x:Nat):Cls (endT x):=⟨by9 x,rfl,rfl,rfl,rfl⟩
theorem bg6 (hk:k.kind≠18) (p:Ps):ah1 s k p= .ok () p:=by
 unfold ah1
 rw [if_neg hk]
 rfl
theorem bv9 {c:UInt8} (hc:c=40∨c=91) (ht:Opn c t) (p:Ps):runQ s m (f+2) (.base t true) p=(if c=40 then runQ s m f (.paren t) p else runQ s m f .array p):=by
 show aC3 s m (runQ s m (f+1)) t true p=_
 unfold aC3
 rw [if_neg (by rw [ht.name];decide),if_neg (by rw [ht.name];decide),if_neg (by rw [ht.name];decide)]
 show aj4 (runQ s m f) t p=_
 have hk:=ht.kind
 unfold aj4
 rw [if_neg (by omega),if_neg (by omega),if_neg (by omega),if_neg (by omega)]
 rcases hc with rfl|rfl
 ·rw [if_neg (by rw [ht.no (by decide)];decide),if_neg (by rw [ht.no (by decide)];decide),if_pos ht.yes,if_pos rfl]
 ·rw [if_pos ht.yes,if_neg (by decide)]
variable {C':CsC} [C:CsC]
theorem bw2 (h2:t.kind≠2) (hy:nameT t ⟨#[121,105,101,108,100]⟩=false) (ha:nameT t ⟨#[97,115,121,110,99]⟩=false) (hp:ab5 s 2 p= .ok t (Zs i t g 1 ne ar)) (hs:ab5 s 2 (Zs i t g 1 (ne+1) t.from')= .ok t (Zs i t g 1 (ne+1) t.from'))
  (hun:runQ s m (f+1) .unary (Zs i t g 1 (ne+1) t.from')= .ok n (@Zs C' j u 1 1 (ne+1) ar2)) (hk:n.kind≠22) (hu:Cls u) (hv:Sees s 1 t.till v) (hvr:punctT v ⟨#[61,62]⟩=false) (h0:0≤ne) (h1:ne<4000):
  runQ s m (f+5) .assign p= .ok n (@Zs C' j u 1 1 ne ar2):=by
 have e1:runQ s m (f+2) (.operand 1) (Zs i t g 1 (ne+1) t.from')= .ok n (@Zs C' j u 1 1 (ne+1) ar2):=(aS7 (f:=f+1) 1 hs h2).trans hun
 have e2:runQ s m (f+3) (.binary 1 false) (Zs i t g 1 (ne+1) t.from')= .ok n (@Zs C' j u 1 1 (ne+1) ar2):=bf5 (C:=C') (f:=f+1) e1 hk hu.stp
 have e3:runQ s m (f+4) .cond (Zs i t g 1 (ne+1) t.from')= .ok n (@Zs C' j u 1 1 (ne+1) ar2):=bw4 (C:=C') (f:=f+3) e2 hk hu.q
 exact aG5 (f:=f+4) hy ha hp hv hvr h0 h1 e3 (aG6 (C:=C') (f:=f+3) hk hu.asg)
theorem bu8 (hv:punctT v ⟨#[46,46,46]⟩=false) (h:runQ s m f .assign (Zs i v 2 1 ne ar)= .ok k q):runQ s m (f+1) .spread (Zs i v 2 1 ne ar)= .ok k q:=by
 show an5 s (runQ s m f) _=_
 unfold an5
 rw [PM.go (ab6 (by decide)),if_neg (by rw [hv];decide)]
 exact h
theorem bC0 (_ht:Opn 40 t) (hv:Sees s 2 t.till v) (hv1:punctT v ⟨#[41]⟩=false) (hv2:punctT v ⟨#[46,46,46]⟩=false) (hx:runQ s m f .assign (Zs t.till v 2 1 ne t.from')= .ok k (@Zs C' j u 1 1 ne ar2)) (hk:k.kind≠18) (hj:k.till=j) (hju:Sees s 1 j u) (hu:Opn 41 u) (hw:Sees s 1 u.till w) (hwa:punctT w ⟨#[61,62]⟩=false):
  runQ s m (f+3) (.paren t) (Zs i t g 1 ne t.from')= .ok (.mk 26 ⟨#[]⟩ [k] t.from' u.till) (@Zs C' u.till w 1 1 ne ar2):=by
 show aE5 s (runQ s m (f+2)) t _=_
 unfold aE5
 have hone:(if 4194304<([]:List Nd).length then outP else do
   let k←runQ s m (f+1) .spread
   ah1 s k
   return ([]:List Nd)++ [k]:PM (List Nd)) (Zs t.till v 2 1 ne t.from')= .ok [k] (@Zs C' j u 1 1 ne ar2):=by
  rw [if_neg (by decide),PM.go (bu8 hv2 hx),PM.go (bg6 hk _)]
  rfl
 have hl:ao4 s ⟨#[41]⟩ 2 (fun kids=>if 4194304<kids.length then outP else do
   let k←runQ s m (f+1) .spread
   ah1 s k
   return kids++ [k]) (f+1) ([]:List Nd) false (Zs t.till t 0 1 ne t.from')= .ok ([k],false) (@Zs C' u.till u 0 1 ne ar2):=by
  unfold ao4
  rw [PM.go (ad2 hv),if_neg (by rw [hv1];decide),PM.go hone,PM.go (ab6 (C:=C') (by decide)),if_pos hu.yes,PM.go (as0 (C:=C'))]
  rfl
 have ha:runQ s m (f+2) (.arguments t.from') (Zs t.till t 0 1 ne t.from')= .ok (.mk 36 ⟨#[]⟩ [k] t.from' u.till) (@Zs C' u.till u 0 1 ne ar2):=by
  show ag9 s (f+1) (runQ s m (f+1)) t.from' _=_
  unfold ag9
  rw [PM.go (ba8 hl)]
  rfl
 rw [PM.go (aC9 _),PM.go as0,PM.go ha]
 have hp:(if t.from'=(Zs i t g 1 ne t.from').arrow then do
   let next←ab5 s 1
   return (punctT next ⟨#[61,62]⟩ && !next.line)
  else return false:PM Bool) (@Zs C' u.till u 0 1 ne ar2)= .ok false (@Zs C' u.till w 1 1 ne ar2):=by
  rw [if_pos (show t.from'=(Zs i t g 1 ne t.from').arrow from rfl),PM.go (ad2 (C:=C') hw),hwa]
  rfl
 rw [PM.go hp,if_neg (by decide)]
 have hb:aj6 s (.mk 36 ⟨#[]⟩ [k] t.from' u.till) (@Zs C' u.till w 1 1 ne ar2)= .ok false (@Zs C' u.till w 1 1 ne ar2):=by
  unfold aj6
  rw [if_neg (show¬(4194304<(Nd.mk 36 ⟨#[]⟩ [k] t.from' u.till).kids.length) from by show¬(4194304<1);decide)]
  show(ax2 s k.till>>=_) _=_
  rw [hj,PM.go (bw9 hju _),hu.no (by decide)]
  rfl
 unfold bl0
 rw [if_neg (by
  show¬(([k].isEmpty|| [k].any (fun k=>decide (k.kind=18)))=true)
  rw [List.any_cons,List.any_nil,decide_eq_false hk];simp),PM.go hb,if_neg (by decide)]
 rfl
end
end
end Go.Proofs.YtcgbkjhoifhnnaaGreatDoor
