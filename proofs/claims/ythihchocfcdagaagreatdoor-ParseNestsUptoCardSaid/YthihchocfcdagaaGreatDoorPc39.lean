/- Parts: Plain: brackets in one another, signs ahead of one another, blocks in one another: what Program reads. No condition. | Plain: signs ahead of one another, blocks in one another, the program around them: what Program reads. No condition. | ParseNests' function answers true. Condition: what a law leans on. -/
import Derived.Test.YthihchocfcdagaaGreatDoorPc36
import Derived.Test.YthihchocfcdagaaGreatDoorPc37
import Derived.Test.YthihchocfcdagaaGreatDoorPc33
import Derived.Test.YthihchocfcdagaaGreatDoorPc38
import Derived.Lib.AppendStr
import Derived.Lib.UnsafeStr
import Derived.Laws.BytesArg
import Derived.Maps.AppendAt
namespace Go.Proofs.YthihchocfcdagaaGreatDoor
section
open Go.RowKit
section
variable {s:ByteArray} {m:Bool} {i j g ne ar ar2 c0 k0:Int} {t u v w tk:Tk} {n k:Nd} {p q:Ps} {f:Nat}
structure Opn (c:UInt8) (t:Tk):Prop where
 kind:t.kind=5
 text:t.text=⟨#[c]⟩
theorem Opn.name {c:UInt8} (h:Opn c t) (x:ByteArray):nameT t x=false:=nameT_kind (by rw [h.kind];decide)
theorem Opn.no {c:UInt8} (h:Opn c t) {x:ByteArray} (hx:(⟨#[c]⟩:ByteArray)≠x):punctT t x=false:=punctT_ne (by rw [h.text];exact hx)
theorem Opn.yes {c:UInt8} (h:Opn c t):punctT t ⟨#[c]⟩=true:=by
 unfold punctT
 rw [h.kind,h.text]
 simp
theorem Opn.slash {c:UInt8} (h:Opn c t) (hc:c≠47):slashT t=false:=by
 unfold slashT
 rw [h.text]
 exact pre_no hc
theorem cls_end (x:Nat):Cls (endT x):=⟨end_stp x,rfl,rfl,rfl,rfl⟩
theorem deeper_bad {α:Type} {x:PM α} {fl place:Int} (h1:ne<4000) (hx:x (Zs i u g fl (ne+1) ar)= .bad c0 k0):deeperP place x (Zs i u g fl ne ar)= .bad c0 k0:=by
 unfold deeperP
 show(if 4000≤ne then _ else _)=_
 rw [if_neg (by omega)]
 show PM.bind x _ (Zs i u g fl (ne+1) ar)=_
 unfold PM.bind
 rw [hx]
theorem deeper_full {α:Type} {x:PM α} {fl place:Int} (h1:4000≤ne):deeperP place x (Zs i u g fl ne ar)= .bad 1002 place:=by
 unfold deeperP
 show(if 4000≤ne then _ else _)=_
 rw [if_pos h1]
theorem assign_full (hp:peekP s 2 p= .ok t (Zs i t g 1 ne ar)) (h1:4000≤ne):runQ s m (f+1) .assign p= .bad 1002 t.from':=by
 show assignS s m (runQ s m f) p=_
 unfold assignS
 rw [PM.go hp]
 exact deeper_full h1
theorem climbU (h2:t.kind≠2) (hy:nameT t ⟨#[121,105,101,108,100]⟩=false) (ha:nameT t ⟨#[97,115,121,110,99]⟩=false) (hp:peekP s 2 p= .ok t (Zs i t g 1 ne ar)) (hs:peekP s 2 (Zs i t g 1 (ne+1) t.from')= .ok t (Zs i t g 1 (ne+1) t.from'))
  (hun:runQ s m (f+1) .unary (Zs i t g 1 (ne+1) t.from')= .ok n (Zs j u 1 1 (ne+1) ar2)) (hk:n.kind≠22) (hu:Cls u) (hv:Sees s 1 t.till v) (hvr:punctT v ⟨#[61,62]⟩=false) (h0:0≤ne) (h1:ne<4000):
  runQ s m (f+5) .assign p= .ok n (Zs j u 1 1 ne ar2):=by
 have e1:runQ s m (f+2) (.operand 1) (Zs i t g 1 (ne+1) t.from')= .ok n (Zs j u 1 1 (ne+1) ar2):=(operand_any (f:=f+1) 1 hs h2).trans hun
 have e2:runQ s m (f+3) (.binary 1 false) (Zs i t g 1 (ne+1) t.from')= .ok n (Zs j u 1 1 (ne+1) ar2):=bin_end (f:=f+1) e1 hk hu.stp
 have e3:runQ s m (f+4) .cond (Zs i t g 1 (ne+1) t.from')= .ok n (Zs j u 1 1 (ne+1) ar2):=cond_z (f:=f+3) e2 hk hu.q
 exact assign_any (f:=f+4) hy ha hp hv hvr h0 h1 e3 (assigned_z (f:=f+3) hk hu.asg)
theorem climbU_bad (h2:t.kind≠2) (hy:nameT t ⟨#[121,105,101,108,100]⟩=false) (ha:nameT t ⟨#[97,115,121,110,99]⟩=false) (hp:peekP s 2 p= .ok t (Zs i t g 1 ne ar)) (hs:peekP s 2 (Zs i t g 1 (ne+1) t.from')= .ok t (Zs i t g 1 (ne+1) t.from'))
  (hun:runQ s m (f+1) .unary (Zs i t g 1 (ne+1) t.from')= .bad c0 k0) (hv:Sees s 1 t.till v) (hvr:punctT v ⟨#[61,62]⟩=false) (h1:ne<4000):
  runQ s m (f+5) .assign p= .bad c0 k0:=by
 have e1:runQ s m (f+2) (.operand 1) (Zs i t g 1 (ne+1) t.from')= .bad c0 k0:=(operand_any (f:=f+1) 1 hs h2).trans hun
 have e2:runQ s m (f+3) (.binary 1 false) (Zs i t g 1 (ne+1) t.from')= .bad c0 k0:=by
  show binaryS s (f+2) (runQ s m (f+2)) 1 false _=_
  unfold binaryS
  exact PM.fell e1
 have e3:runQ s m (f+4) .cond (Zs i t g 1 (ne+1) t.from')= .bad c0 k0:=by
  show condS s (runQ s m (f+3)) _=_
  unfold condS
  exact PM.fell e2
 show assignS s m (runQ s m (f+4)) p=_
 unfold assignS
 rw [PM.go hp]
 refine deeper_bad h1 ?_
 rw [PM.go (get_z _),if_neg (by rw [hy];simp),PM.go (single_any ha hv hvr),if_neg (by decide)]
 rw [PM.go (show modP (fun q=> { q with arrow:=t.from' }) (Zs i t g 1 (ne+1) ar)= .ok () (Zs i t g 1 (ne+1) t.from') from rfl)]
 exact PM.fell e3
theorem unary_b {c:UInt8} (hc:c=40∨c=91) (ht:Opn c t) (hs:peekP s 2 (Zs i t g 1 ne ar)= .ok t (Zs i t g 1 ne ar)) (hb:runQ s m (f+1) (.base t true) (Zs i t g 1 ne ar)= .ok n q) (h22:n.kind≠22) (h1:n.kind≠1) (hq:peekP s 1 q= .ok u (Zs j u 1 1 ne ar2)) (hu:Endy u):
  runQ s m (f+3) .unary (Zs i t g 1 ne ar)= .ok n (Zs j u 1 1 ne ar2):=by
 have hl:runQ s m (f+2) .leftHand (Zs i t g 1 ne ar)= .ok n (Zs j u 1 1 ne ar2):=by
  show leftHandS s (f+1) (runQ s m (f+1)) _=_
  unfold leftHandS
  rw [PM.go hs,PM.go (get_z _)]
  show(runQ s m (f+1) (.base t true)>>=_) _=_
  rw [PM.go hb,if_neg h22,if_neg (by rw [show decide (n.kind=1)=false from decide_eq_false h1];simp)]
  unfold leftHandS.linkL
  rw [PM.go hq,if_neg (by rw [hu.opt];decide),PM.go (link_no f n true true hu (peek_old (by decide))),if_neg (show¬((false:Bool)=true) by decide)]
  rfl
 show unaryS s (runQ s m (f+2)) _=_
 unfold unaryS
 have e1: ∀x:ByteArray,x=⟨#[43]⟩∨x=⟨#[45]⟩∨x=⟨#[126]⟩∨x=⟨#[33]⟩∨x=⟨#[43,43]⟩∨x=⟨#[45,45]⟩→punctT t x=false:=by
  intro x hx
  refine ht.no ?_
  rcases hc with rfl|rfl<;>rcases hx with rfl|rfl|rfl|rfl|rfl|rfl<;>decide
 rw [PM.go hs,if_neg (by rw [ht.name,ht.name,ht.name,e1 _ (.inl rfl),e1 _ (.inr (.inl rfl)),e1 _ (.inr (.inr (.inl rfl))),e1 _ (.inr (.inr (.inr (.inl rfl))))];decide),PM.go (get_z _),if_neg (by rw [ht.name];simp),if_neg (by rw [e1 _ (.inr (.inr (.inr (.inr (.inl rfl))))),e1 _ (.inr (.inr (.inr (.inr (.inr rfl)))))];decide),PM.go hl,if_neg h22,PM.go (peek_old (by decide)),if_neg (by rw [hu.inc,hu.dec];simp)]
 rfl
theorem unary_b_bad {c:UInt8} (hc:c=40∨c=91) (ht:Opn c t) (hs:peekP s 2 (Zs i t g 1 ne ar)= .ok t (Zs i t g 1 ne ar)) (hb:runQ s m (f+1) (.base t true) (Zs i t g 1 ne ar)= .bad c0 k0):
  runQ s m (f+3) .unary (Zs i t g 1 ne ar)= .bad c0 k0:=by
 have hl:runQ s m (f+2) .leftHand (Zs i t g 1 ne ar)= .bad c0 k0:=by
  show leftHandS s (f+1) (runQ s m (f+1)) _=_
  unfold leftHandS
  rw [PM.go hs,PM.go (get_z _)]
  exact PM.fell hb
 show unaryS s (runQ s m (f+2)) _=_
 unfold unaryS
 have e1: ∀x:ByteArray,x=⟨#[43]⟩∨x=⟨#[45]⟩∨x=⟨#[126]⟩∨x=⟨#[33]⟩∨x=⟨#[43,43]⟩∨x=⟨#[45,45]⟩→punctT t x=false:=by
  intro x hx
  refine ht.no ?_
  rcases hc with rfl|rfl<;>rcases hx with rfl|rfl|rfl|rfl|rfl|rfl<;>decide
 rw [PM.go hs,if_neg (by rw [ht.name,ht.name,ht.name,e1 _ (.inl rfl),e1 _ (.inr (.inl rfl)),e1 _ (.inr (.inr (.inl rfl))),e1 _ (.inr (.inr (.inr (.inl rfl))))];decide),PM.go (get_z _),if_neg (by rw [ht.name];simp),if_neg (by rw [e1 _ (.inr (.inr (.inr (.inr (.inl rfl))))),e1 _ (.inr (.inr (.inr (.inr (.inr rfl)))))];decide)]
 exact PM.fell hl
theorem base_b {c:UInt8} (hc:c=40∨c=91) (ht:Opn c t) (p:Ps):runQ s m (f+2) (.base t true) p=(if c=40 then runQ s m f (.paren t) p else runQ s m f .array p):=by
 show baseS s m (runQ s m (f+1)) t true p=_
 unfold baseS
 rw [if_neg (by rw [ht.name];decide),if_neg (by rw [ht.name];decide),if_neg (by rw [ht.name];decide)]
 show primaryS (runQ s m f) t p=_
 have hk:=ht.kind
 unfold primaryS
 rw [if_neg (by omega),if_neg (by omega),if_neg (by omega),if_neg (by omega)]
 rcases hc with rfl|rfl
 ·rw [if_neg (by rw [ht.no (by decide)];decide),if_neg (by rw [ht.no (by decide)];decide),if_pos ht.yes,if_pos rfl]
 ·rw [if_pos ht.yes,if_neg (by decide)]
theorem spread_b (hv:punctT v ⟨#[46,46,46]⟩=false) (h:runQ s m f .assign (Zs i v 2 1 ne ar)= .ok k q):runQ s m (f+1) .spread (Zs i v 2 1 ne ar)= .ok k q:=by
 show spreadS s (runQ s m f) _=_
 unfold spreadS
 rw [PM.go (peek_old (by decide)),if_neg (by rw [hv];decide)]
 exact h
theorem spread_b_bad (hv:punctT v ⟨#[46,46,46]⟩=false) (h:runQ s m f .assign (Zs i v 2 1 ne ar)= .bad c0 k0):runQ s m (f+1) .spread (Zs i v 2 1 ne ar)= .bad c0 k0:=by
 show spreadS s (runQ s m f) _=_
 unfold spreadS
 rw [PM.go (peek_old (by decide)),if_neg (by rw [hv];decide)]
 exact h
theorem with_bad {α:Type} {x:PM α} (hx:x (Zs i u g 1 ne ar)= .bad c0 k0):withP 1 0 x (Zs i u g 1 ne ar)= .bad c0 k0:=by
 have e:({ Zs i u g 1 ne ar with flags:=setF (Zs i u g 1 ne ar).flags 1 0 } :Ps)=Zs i u g 1 ne ar:=by
  show(⟨i,u,[],g,[],setF 1 1 0,ne,ar,[]⟩:Ps)=_
  rw [setF_1]
  rfl
 unfold withP
 rw [e]
 unfold PM.bind
 rw [hx]
theorem comma_z (hk:k.kind≠18) (p:Ps):commaP s k p= .ok () p:=by
 unfold commaP
 rw [if_neg hk]
 rfl
theorem paren_z (_ht:Opn 40 t) (hv:Sees s 2 t.till v) (hv1:punctT v ⟨#[41]⟩=false) (hv2:punctT v ⟨#[46,46,46]⟩=false) (hx:runQ s m f .assign (Zs t.till v 2 1 ne t.from')= .ok k (Zs j u 1 1 ne ar2)) (hk:k.kind≠18) (hj:k.till=j) (hju:Sees s 1 j u) (hu:Opn 41 u) (hw:Sees s 1 u.till w) (hwa:punctT w ⟨#[61,62]⟩=false):
  runQ s m (f+3) (.paren t) (Zs i t g 1 ne t.from')= .ok (.mk 26 ⟨#[]⟩ [k] t.from' u.till) (Zs u.till w 1 1 ne ar2):=by
 show parenQ s (runQ s m (f+2)) t _=_
 unfold parenQ
 have hone:(if 4194304<([]:List Nd).length then outP else do
   let k←runQ s m (f+1) .spread
   commaP s k
   return ([]:List Nd)++ [k]:PM (List Nd)) (Zs t.till v 2 1 ne t.from')= .ok [k] (Zs j u 1 1 ne ar2):=by
  rw [if_neg (by decide),PM.go (spread_b hv2 hx),PM.go (comma_z hk _)]
  rfl
 have hl:listP s ⟨#[41]⟩ 2 (fun kids=>if 4194304<kids.length then outP else do
   let k←runQ s m (f+1) .spread
   commaP s k
   return kids++ [k]) (f+1) ([]:List Nd) false (Zs t.till t 0 1 ne t.from')= .ok ([k],false) (Zs u.till u 0 1 ne ar2):=by
  unfold listP
  rw [PM.go (peek_new hv),if_neg (by rw [hv1];decide),PM.go hone,PM.go (peek_old (by decide)),if_pos hu.yes,PM.go take_z]
  rfl
 have ha:runQ s m (f+2) (.arguments t.from') (Zs t.till t 0 1 ne t.from')= .ok (.mk 36 ⟨#[]⟩ [k] t.from' u.till) (Zs u.till u 0 1 ne ar2):=by
  show argumentsQ s (f+1) (runQ s m (f+1)) t.from' _=_
  unfold argumentsQ
  rw [PM.go (with_z hl)]
  rfl
 rw [PM.go (get_z _),PM.go take_z,PM.go ha]
 have hp:(if t.from'=(Zs i t g 1 ne t.from').arrow then do
   let next←peekP s 1
   return (punctT next ⟨#[61,62]⟩ && !next.line)
  else return false:PM Bool) (Zs u.till u 0 1 ne ar2)= .ok false (Zs u.till w 1 1 ne ar2):=by
  rw [if_pos (show t.from'=(Zs i t g 1 ne t.from').arrow from rfl),PM.go (peek_new hw),hwa]
  rfl
 rw [PM.go hp,if_neg (by decide)]
 have hb:trailingQ s (.mk 36 ⟨#[]⟩ [k] t.from' u.till) (Zs u.till w 1 1 ne ar2)= .ok false (Zs u.till w 1 1 ne ar2):=by
  unfold trailingQ
  rw [if_neg (show¬(4194304<(Nd.mk 36 ⟨#[]⟩ [k] t.from' u.till).kids.length) from by show¬(4194304<1);decide)]
  show(lookP s k.till>>=_) _=_
  rw [hj,PM.go (look_z hju _),hu.no (by decide)]
  rfl
 unfold parenX
 rw [if_neg (by
  show¬(([k].isEmpty|| [k].any (fun k=>decide (k.kind=18)))=true)
  rw [List.any_cons,List.any_nil,decide_eq_false hk];simp),PM.go hb,if_neg (by decide)]
 rfl
theorem paren_bad (_ht:Opn 40 t) (hv:Sees s 2 t.till v) (hv1:punctT v ⟨#[41]⟩=false) (hv2:punctT v ⟨#[46,46,46]⟩=false) (hx:runQ s m f .assign (Zs t.till v 2 1 ne t.from')= .bad c0 k0):
  runQ s m (f+3) (.paren t) (Zs i t g 1 ne t.from')= .bad c0 k0:=by
 show parenQ s (runQ s m (f+2)) t _=_
 unfold parenQ
 have hone:(if 4194304<([]:List Nd).length then outP else do
   let k←runQ s m (f+1) .spread
   commaP s k
   return ([]:List Nd)++ [k]:PM (List Nd)) (Zs t.till v 2 1 ne t.from')= .bad c0 k0:=by
  rw [if_neg (by decide)]
  exact PM.fell (spread_b_bad hv2 hx)
 have hl:listP s ⟨#[41]⟩ 2 (fun kids=>if 4194304<kids.length then outP else do
   let k←runQ s m (f+1) .spread
   commaP s k
   return kids++ [k]) (f+1) ([]:List Nd) false (Zs t.till t 0 1 ne t.from')= .bad c0 k0:=by
  unfold listP
  rw [PM.go (peek_new hv),if_neg (by rw [hv1];decide)]
  exact PM.fell hone
 have ha:runQ s m (f+2) (.arguments t.from') (Zs t.till t 0 1 ne t.from')= .bad c0 k0:=by
  show argumentsQ s (f+1) (runQ s m (f+1)) t.from' _=_
  unfold argumentsQ
  exact PM.fell (with_bad hl)
 rw [PM.go (get_z _),PM.go take_z]
 exact PM.fell ha
theorem array_z (_ht:Opn 91 t) (hv:Sees s 2 t.till v) (hs:slashT v=false) (hv1:punctT v ⟨#[93]⟩=false) (hv3:punctT v ⟨#[44]⟩=false) (hv2:punctT v ⟨#[46,46,46]⟩=false) (hx:runQ s m (f+1) .assign (Zs t.till v 2 1 ne ar)= .ok k (Zs j u 1 1 ne ar2)) (hk:k.kind≠18) (hu:Opn 93 u):
  runQ s m (f+3) .array (Zs i t g 1 ne ar)= .ok (.mk 11 ⟨#[]⟩ [k] t.from' u.till) (Zs u.till u 0 1 ne ar2):=by
 show arrayQ s (f+2) (runQ s m (f+2)) _=_
 unfold arrayQ
 have hl:arrayL s (runQ s m (f+2)) (f+2) [] (Zs t.till t 0 1 ne ar)= .ok [k] (Zs j u 1 1 ne ar2):=by
  unfold arrayL
  rw [if_neg (by decide),PM.go (peek_new hv),if_neg (by rw [hv1];decide),PM.go (is_no (peek_12 (by decide) (by decide) (by decide) hs) hv3),if_neg (by decide),PM.go (spread_b hv2 hx),PM.go (comma_z hk _),PM.go (peek_old (by decide)),if_pos hu.yes]
  unfold arrayL
  rw [if_neg (show¬(4194304<([]++ [k]:List Nd).length) by simp),PM.go (peek_12 (by decide) (by decide) (by decide) (hu.slash (by decide))),if_pos hu.yes]
  rfl
 rw [PM.go take_z,PM.go (with_z hl),PM.go take_z]
 rfl
theorem array_bad (_ht:Opn 91 t) (hv:Sees s 2 t.till v) (hs:slashT v=false) (hv1:punctT v ⟨#[93]⟩=false) (hv3:punctT v ⟨#[44]⟩=false) (hv2:punctT v ⟨#[46,46,46]⟩=false) (hx:runQ s m (f+1) .assign (Zs t.till v 2 1 ne ar)= .bad c0 k0):
  runQ s m (f+3) .array (Zs i t g 1 ne ar)= .bad c0 k0:=by
 show arrayQ s (f+2) (runQ s m (f+2)) _=_
 unfold arrayQ
 have hl:arrayL s (runQ s m (f+2)) (f+2) [] (Zs t.till t 0 1 ne ar)= .bad c0 k0:=by
  unfold arrayL
  rw [if_neg (by decide),PM.go (peek_new hv),if_neg (by rw [hv1];decide),PM.go (is_no (peek_12 (by decide) (by decide) (by decide) hs) hv3),if_neg (by decide)]
  exact PM.fell (spread_b_bad hv2 hx)
 rw [PM.go take_z]
 exact PM.fell (with_bad hl)
end
def nsT (c e:UInt8) (d:Nat) (r:List UInt8):List UInt8:=List.replicate d c++97::(List.replicate d e++r)
theorem nsT_1 (c e:UInt8) (d:Nat) (r:List UInt8):nsT c e (d+1) r=c::nsT c e d (e::r):=by
 unfold nsT
 rw [List.replicate_succ,List.replicate_succ',List.cons_append,List.append_assoc]
 rfl
def nsK (c:UInt8) (d p:Nat):Tk:=if d=0 then ⟨1,⟨#[97]⟩,(p:Int),((p+1:Nat):Int),false⟩ else ⟨5,⟨#[c]⟩,(p:Int),((p+1:Nat):Int),false⟩
section
variable {s:ByteArray}
theorem ns_opn (c:UInt8) (d p:Nat):Opn c (nsK c (d+1) p):=⟨rfl,rfl⟩
theorem ns_nm (c:UInt8) (p:Nat):Nm (nsK c 0 p):=⟨rfl,show oneOf (⟨#[97]⟩:ByteArray) resW=false by decide,show(⟨#[97]⟩:ByteArray)≠_ by decide,show(⟨#[97]⟩:ByteArray)≠_ by decide,rfl⟩
theorem ns_till (c:UInt8) (d p:Nat):(nsK c d p).till=((p+1:Nat):Int):=by unfold nsK;split<;>rfl
theorem ns_from (c:UInt8) (d p:Nat):(nsK c d p).from'=(p:Int):=by unfold nsK;split<;>rfl
def NsR (r:List UInt8):Prop:=r= []∨∃x l,r=x::l∧(x=41∨x=93)
theorem NsR.goes {r:List UInt8} (h:NsR r):goesP false r=false∧0≤(nx r).2:=by
 rcases h with rfl|⟨x,l,rfl,rfl|rfl⟩
 ·exact⟨rfl,by decide⟩
 ·exact goes_no _ (.inr (.inr (.inr (.inr (.inl rfl)))))
 ·exact goes_no _ (.inr (.inr (.inr (.inr (.inr rfl)))))
theorem ns_sees {c e:UInt8} {d p:Nat} {r:List UInt8} {g:Int} (hg:g=1∨g=2) (hc:c=40∧e=41∨c=91∧e=93) (hd:s.data.toList.drop p=nsT c e d r) (hr:NsR r):Sees s g p (nsK c d p):=by
 cases d with
 |zero=>
  exact sees_adj hg (a:= [97]) (l:=r) hd (Nat.le_of_lt (tx_lt hd)) (ink0_of (by decide) (by decide) (by decide) (by decide)) (plain_word (a:= []) (by decide) (low_start (by decide)) (fun x hx=>by cases hx) hr.goes.1 hr.goes.2)
 |succ d=>
  rw [nsT_1] at hd
  have hp:pct g (c::nsT c e d (e::r))=1:=by rcases hc with ⟨rfl,_⟩|⟨rfl,_⟩<;>exact(pct_no (by decide)).trans rfl
  rcases hc with ⟨rfl,_⟩|⟨rfl,_⟩<;>exact sees_mark hg hd (by decide) (by decide) (by decide) (by decide) (by decide) hp
theorem ns_close {e:UInt8} {p:Nat} {r:List UInt8} {g:Int} (hg:g=1∨g=2) (he:e=41∨e=93) (hd:s.data.toList.drop p=e::r):Sees s g p ⟨5,⟨#[e]⟩,(p:Int),((p+1:Nat):Int),false⟩:=by
 have hp:pct g (e::r)=1:=by rcases he with rfl|rfl<;>exact(pct_no (by decide)).trans rfl
 rcases he with rfl|rfl<;>exact sees_mark hg hd (by decide) (by decide) (by decide) (by decide) (by decide) hp
theorem nsT_rest {c e:UInt8} {r:List UInt8} : ∀ {d p:Nat},s.data.toList.drop p=nsT c e d r→s.data.toList.drop (p+2*d+1)=r
 |0,_,h=>tx_next h
 |d+1,p,h=>by
  rw [nsT_1] at h
  have h2:=nsT_rest (d:=d) (tx_next h)
  have h3:=tx_next h2
  rw [show p+2*(d+1)+1=p+1+2*d+1+1 by omega]
  exact h3
structure NsA (d p:Nat) (ne:Int) (u:Tk) (r:Res Nd):Prop where
 ex: ∃n ar2,r= .ok n (Zs ((p+2*d+1:Nat):Int) u 1 1 ne ar2)∧n.till=((p+2*d+1:Nat):Int)∧(n.kind=1∨n.kind=26∨n.kind=11)∧noProp n=true∧ndSize n=d+1
theorem one_prop {K:Int} {n:Nd} {a b:Int} (hK:K≠13) (h:noProp n=true):noProp (.mk K ⟨#[]⟩ [n] a b)=true:=by
 rw [noProp,noProps,noProps,h,decide_eq_false hK]
 rfl
theorem one_size {K:Int} {n:Nd} {a b:Int} :ndSize (.mk K ⟨#[]⟩ [n] a b)=ndSize n+1:=by
 rw [ndSize,ndSizes,ndSizes]
 omega
def NsC (c e:UInt8) (K:Nat):Prop:=c=40∧e=41∧K=11∨c=91∧e=93∧K=10
theorem NsC.b {c e:UInt8} {K:Nat} (h:NsC c e K):c=40∧e=41∨c=91∧e=93:=h.imp (fun h=>⟨h.1,h.2.1⟩) fun h=>⟨h.1,h.2.1⟩
theorem ns_first {c e:UInt8} (hc:c=40∧e=41∨c=91∧e=93) (d p:Nat):slashT (nsK c d p)=false∧punctT (nsK c d p) ⟨#[41]⟩=false∧punctT (nsK c d p) ⟨#[93]⟩=false∧punctT (nsK c d p) ⟨#[44]⟩=false∧punctT (nsK c d p) ⟨#[46,46,46]⟩=false∧punctT (nsK c d p) ⟨#[61,62]⟩=false:=by
 cases d with
 |zero=>exact⟨(ns_nm c _).sl,(ns_nm c _).punctT _,(ns_nm c _).punctT _,(ns_nm c _).punctT _,(ns_nm c _).punctT _,(ns_nm c _).punctT _⟩
 |succ d=>
  have h:=ns_opn c d p
  rcases hc with ⟨rfl,_⟩|⟨rfl,_⟩<;>exact⟨h.slash (by decide),h.no (by decide),h.no (by decide),h.no (by decide),h.no (by decide),h.no (by decide)⟩
theorem nest_ok {m:Bool} {c e:UInt8} {K:Nat} (hc:NsC c e K) (F:Nat): ∀(d p:Nat) (r:List UInt8) (ne ar:Int) (u:Tk),s.data.toList.drop p=nsT c e d r→NsR r→Sees s 1 ((p+2*d+1:Nat):Int) u→Cls u→0≤ne→ne+d<4000→
  NsA d p ne u (runQ s m (F+10+K*d) .assign (Zs p (nsK c d p) 2 1 ne ar))
 |0,p,r,ne,ar,u,hd,hr,hu,hcl,h0,h1=>by
  exact⟨_,_,assign_nm (F+1) (ns_nm c p) (.inr rfl) (peek_old (by decide)) (by rw [ns_till];exact hu) hcl.stp hcl.q hcl.asg hcl.arr h0 (by omega),rfl,.inl rfl,rfl,rfl⟩
 |d+1,p,r,ne,ar,u,hd,hr,hu,hcl,h0,h1=>by
  rw [nsT_1] at hd
  have hd1:=tx_next hd
  have he:e=41∨e=93:=hc.b.imp (·.2) (·.2)
  have hr1:NsR (e::r):= .inr ⟨e,r,rfl,he⟩
  have hq:=nsT_rest hd1
  have hcl1:=ns_close (g:=1) (.inl rfl) he hq
  have hcc:=cls_of he ((p+1+2*d+1:Nat):Int) ((p+1+2*d+1+1:Nat):Int)
  have hv2:=ns_sees (g:=2) (.inr rfl) hc.b hd1 hr1
  have hv1:=ns_sees (g:=1) (.inl rfl) hc.b hd1 hr1
  obtain⟨k,ar2,e1,e2,e3,e4,e5⟩:=(nest_ok (m:=m) hc F d (p+1) (e::r) (ne+1) (p:Int) _ hd1 hr1 hcl1 hcc (by omega) (by omega)).ex
  have ht:=ns_opn c d p
  have hk18:k.kind≠18:=by omega
  have hvs:=ns_first hc.b d (p+1)
  have hself:peekP s 2 (Zs p (nsK c (d+1) p) 2 1 (ne+1) (p:Int))= .ok _ _:=peek_old (by decide)
  have tt:=ns_till c (d+1) p
  have tf:=ns_from c (d+1) p
  have hpos:((p+1+2*d+1+1:Nat):Int)=((p+2*(d+1)+1:Nat):Int):=by omega
  obtain⟨f,hf,n,q,b1,b2,b3,b4,b5,b6⟩: ∃f,F+10+K*(d+1)=f+7∧∃n q,runQ s m (f+1) (.base (nsK c (d+1) p) true) (Zs p (nsK c (d+1) p) 2 1 (ne+1) (p:Int))= .ok n q∧peekP s 1 q= .ok u (Zs ((p+2*(d+1)+1:Nat):Int) u 1 1 (ne+1) ar2)∧n.till=((p+2*(d+1)+1:Nat):Int)∧(n.kind=26∨n.kind=11)∧noProp n=true∧ndSize n=d+1+1:=by
   rcases hc with ⟨rfl,rfl,rfl⟩|⟨rfl,rfl,rfl⟩
   ·refine⟨F+10+11*d+4,by omega,?_⟩
    have hz:=paren_z (m:=m) (f:=F+10+11*d) (i:=p) (g:=2) (ne:=ne+1) (t:=nsK 40 (d+1) p) (v:=nsK 40 d (p+1)) (u:=⟨5,⟨#[41]⟩,((p+1+2*d+1:Nat):Int),((p+1+2*d+1+1:Nat):Int),false⟩) (w:=u) (k:=k) ht (by rw [tt];exact hv2) hvs.2.1 hvs.2.2.2.2.1 (by rw [tt,tf];exact e1) hk18 e2 hcl1 ⟨rfl,rfl⟩ (by show Sees s 1 ((p+1+2*d+1+1:Nat):Int) u;rw [hpos];exact hu) hcl.arr
    rw [tf] at hz
    refine⟨_,_,(base_b (f:=F+10+11*d+3) (.inl rfl) ht _).trans ((if_pos rfl).trans hz),?_,hpos,.inl rfl,one_prop (by decide) e4,by rw [one_size,e5]⟩
    show peekP s 1 (Zs ((p+1+2*d+1+1:Nat):Int) u 1 1 (ne+1) ar2)=_
    rw [hpos]
    exact peek_old (by decide)
   ·refine⟨F+10+10*d+3,by omega,?_⟩
    have hz:=array_z (m:=m) (f:=F+9+10*d) (i:=p) (g:=2) (ne:=ne+1) (ar:=(p:Int)) (t:=nsK 91 (d+1) p) (v:=nsK 91 d (p+1)) (u:=⟨5,⟨#[93]⟩,((p+1+2*d+1:Nat):Int),((p+1+2*d+1+1:Nat):Int),false⟩) (k:=k) ht (by rw [tt];exact hv2) hvs.1 hvs.2.2.1 hvs.2.2.2.1 hvs.2.2.2.2.1 (by rw [tt,show F+9+10*d+1=F+10+10*d by omega];exact e1) hk18 ⟨rfl,rfl⟩
    rw [show F+9+10*d+3=F+10+10*d+2 by omega] at hz
    refine⟨_,_,(base_b (f:=F+10+10*d+2) (.inr rfl) ht _).trans ((if_neg (by decide)).trans hz),?_,hpos,.inr rfl,one_prop (by decide) e4,by rw [one_size,e5]⟩
    show peekP s 1 (Zs ((p+1+2*d+1+1:Nat):Int) _ 0 1 (ne+1) ar2)=_
    rw [hpos]
    exact peek_new hu
  have hn22:n.kind≠22:=by omega
  have hun:=unary_b (hc.b.imp (·.1) (·.1)) ht hself b1 hn22 (by omega) b2 hcl.stp.e
  have hfin:=climbU (m:=m) (p:=Zs p (nsK c (d+1) p) 2 1 ne ar) (f:=f+2) (v:=nsK c d (p+1)) (by rw [ht.kind];decide) (ht.name _) (ht.name _) (peek_old (by decide)) (by rw [tf];exact hself) (by rw [tf];exact hun) hn22 hcl (by rw [tt];exact hv1) hvs.2.2.2.2.2 h0 (by omega)
  rw [hf]
  exact⟨n,ar2,hfin,b3,.inr b4,b5,b6⟩
theorem nest_bad {m:Bool} {c e:UInt8} {K:Nat} (hc:NsC c e K) (F:Nat): ∀(d p:Nat) (r:List UInt8) (ne ar:Int),s.data.toList.drop p=nsT c e d r→NsR r→0≤ne→ne≤4000→4000≤ne+d→
  runQ s m (F+10+K*d) .assign (Zs p (nsK c d p) 2 1 ne ar)= .bad 1002 (p+(4000 - ne))
 |0,p,r,ne,ar,hd,hr,h0,h1,h2=>by
  have h:=assign_full (s:=s) (m:=m) (f:=F+9) (p:=Zs p (nsK c 0 p) 2 1 ne ar) (peek_old (by decide)) (by omega)
  rw [ns_from] at h
  rw [show ((p:Int)+(4000 - ne))=(p:Int) by omega]
  exact h
 |d+1,p,r,ne,ar,hd,hr,h0,h1,h2=>by
  by_cases hfull:ne=4000
  ·have h:=assign_full (s:=s) (m:=m) (f:=F+9+K*(d+1)) (p:=Zs p (nsK c (d+1) p) 2 1 ne ar) (peek_old (by decide)) (by omega)
   rw [ns_from] at h
   rw [show ((p:Int)+(4000 - ne))=(p:Int) by omega,show F+10+K*(d+1)=F+9+K*(d+1)+1 by omega]
   exact h
  rw [nsT_1] at hd
  have hd1:=tx_next hd
  have he:e=41∨e=93:=hc.b.imp (·.2) (·.2)
  have hr1:NsR (e::r):= .inr ⟨e,r,rfl,he⟩
  have hv2:=ns_sees (g:=2) (.inr rfl) hc.b hd1 hr1
  have hv1:=ns_sees (g:=1) (.inl rfl) hc.b hd1 hr1
  have e1:=nest_bad (m:=m) hc F d (p+1) (e::r) (ne+1) (p:Int) hd1 hr1 (by omega) (by omega) (by omega)
  rw [show (((p+1:Nat):Int)+(4000 - (ne+1)))=(p:Int)+(4000 - ne) by omega] at e1
  have ht:=ns_opn c d p
  have hvs:=ns_first hc.b d (p+1)
  have hself:peekP s 2 (Zs p (nsK c (d+1) p) 2 1 (ne+1) (p:Int))= .ok _ _:=peek_old (by decide)
  have tt:=ns_till c (d+1) p
  have tf:=ns_from c (d+1) p
  obtain⟨f,hf,b1⟩: ∃f,F+10+K*(d+1)=f+7∧runQ s m (f+1) (.base (nsK c (d+1) p) true) (Zs p (nsK c (d+1) p) 2 1 (ne+1) (p:Int))= .bad 1002 ((p:Int)+(4000 - ne)):=by
   rcases hc with ⟨rfl,rfl,rfl⟩|⟨rfl,rfl,rfl⟩
   ·refine⟨F+10+11*d+4,by omega,?_⟩
    have hz:=paren_bad (m:=m) (f:=F+10+11*d) (i:=p) (g:=2) (ne:=ne+1) (t:=nsK 40 (d+1) p) (v:=nsK 40 d (p+1)) ht (by rw [tt];exact hv2) hvs.2.1 hvs.2.2.2.2.1 (by rw [tt,tf];exact e1)
    rw [tf] at hz
    exact(base_b (f:=F+10+11*d+3) (.inl rfl) ht _).trans ((if_pos rfl).trans hz)
   ·refine⟨F+10+10*d+3,by omega,?_⟩
    have hz:=array_bad (m:=m) (f:=F+9+10*d) (i:=p) (g:=2) (ne:=ne+1) (ar:=(p:Int)) (t:=nsK 91 (d+1) p) (v:=nsK 91 d (p+1)) ht (by rw [tt];exact hv2) hvs.1 hvs.2.2.1 hvs.2.2.2.1 hvs.2.2.2.2.1 (by rw [tt,show F+9+10*d+1=F+10+10*d by omega];exact e1)
    rw [show F+9+10*d+3=F+10+10*d+2 by omega] at hz
    exact(base_b (f:=F+10+10*d+2) (.inr rfl) ht _).trans ((if_neg (by decide)).trans hz)
  have hun:=unary_b_bad (hc.b.imp (·.1) (·.1)) ht hself b1
  have hfin:=climbU_bad (m:=m) (p:=Zs p (nsK c (d+1) p) 2 1 ne ar) (f:=f+2) (v:=nsK c d (p+1)) (by rw [ht.kind];decide) (ht.name _) (ht.name _) (peek_old (by decide)) (by rw [tf];exact hself) (by rw [tf];exact hun) (by rw [tt];exact hv1) hvs.2.2.2.2.2 (by omega)
  rw [hf]
  exact hfin
end
end
section
open Go.RowKit
section
variable {s:ByteArray}
theorem bang_sees {d p:Nat} {g:Int} (hg:g=1∨g=2) (hd:s.data.toList.drop p=List.replicate d 33++ [97]):Sees s g p (nsK 33 d p):=by
 cases d with
 |zero=>exact sees_adj hg (a:= [97]) (l:= []) hd (Nat.le_of_lt (tx_lt hd)) (ink0_of (by decide) (by decide) (by decide) (by decide)) (plain_word (a:= []) (by decide) (low_start (by decide)) (fun x hx=>by cases hx) rfl (by decide))
 |succ d=>
  rw [List.replicate_succ,List.cons_append] at hd
  have hp:pct g (33::(List.replicate d 33++ [97]))=1:=by
   cases d with
   |zero=>exact(pct_no (by decide)).trans rfl
   |succ d=>rw [List.replicate_succ];exact(pct_no (by decide)).trans rfl
  exact sees_mark hg hd (by decide) (by decide) (by decide) (by decide) (by decide) hp
theorem bang_un {m:Bool} {t:Tk} {i ne ar:Int} {f:Nat} (ht:Opn 33 t) {r:Res Nd} (hpr:(prefixS s (runQ s m f)>>=fun n=>nodeP 27 t.text t.from' [n]) (Zs i t 2 1 ne ar)=r):runQ s m (f+1) .unary (Zs i t 2 1 ne ar)=r:=by
 show unaryS s (runQ s m f) _=_
 unfold unaryS
 rw [PM.go (peek_old (by decide)),if_pos (by rw [ht.yes];simp)]
 exact hpr
theorem bang_ok {m:Bool} (F:Nat): ∀(d p:Nat) (ne ar:Int),s.data.toList.drop p=List.replicate d 33++ [97]→0≤ne→ne+d≤4000→
  ∃n,runQ s m (F+5+d) .unary (Zs p (nsK 33 d p) 2 1 ne ar)= .ok n (Zs ((p+d+1:Nat):Int) (endT (p+d+1)) 1 1 ne ar)∧(n.kind=1∨n.kind=27)∧noProp n=true∧ndSize n=d+1
 |0,p,ne,ar,hd,h0,h1=>by
  have hn:=tx_next (l:= []) (c:=97) hd
  have he:=sees_end (g:=1) (.inl rfl) hn (tx_lt (l:= []) (c:=97) hd)
  exact⟨_,unary_z (u:=endT (p+1)) F (ns_nm 33 p) (.inr rfl) (peek_old (by decide)) (end_stp _).e (by rw [ns_till];exact he),.inl rfl,rfl,rfl⟩
 |d+1,p,ne,ar,hd,h0,h1=>by
  have hv:=bang_sees (g:=2) (.inr rfl) (d:=d) (p:=p+1) (tx_next (c:=33) (by rw [hd,List.replicate_succ];rfl))
  obtain⟨n,e1,e2,e3,e4⟩:=bang_ok (m:=m) F d (p+1) (ne+1) ar (tx_next (c:=33) (by rw [hd,List.replicate_succ];rfl)) (by omega) (by omega)
  have tt:=ns_till 33 (d+1) p
  have hpr:=prefix_z (m:=m) (f:=F+5+d) (i:=(p:Int)) (g2:=2) (fl:=1) (ar:=ar) (o:=nsK 33 (d+1) p) (e:=endT (p+1+d+1)) (till':=((p+1+d+1:Nat):Int)) (by rw [tt];exact hv) h0 (by omega) (by rw [tt];exact e1)
  refine⟨.mk 27 (nsK 33 (d+1) p).text [n] (nsK 33 (d+1) p).from' ((p+1+d+1:Nat):Int),?_,.inr rfl,?_,?_⟩
  ·rw [show p+(d+1)+1=p+1+d+1 by omega]
   refine bang_un (f:=F+5+d) (ns_opn 33 d p) ?_
   rw [PM.go hpr]
   rfl
  ·rw [noProp,noProps,noProps,e3];rfl
  ·rw [ndSize,ndSizes,ndSizes,e4];omega
theorem bang_bad {m:Bool} (F:Nat): ∀(d p:Nat) (ne ar:Int),s.data.toList.drop p=List.replicate d 33++ [97]→0≤ne→ne≤4000→4000<ne+d→
  runQ s m (F+5+d) .unary (Zs p (nsK 33 d p) 2 1 ne ar)= .bad 1002 (p+(4000 - ne)+1)
 |0,p,ne,ar,hd,h0,h1,h2=>by omega
 |d+1,p,ne,ar,hd,h0,h1,h2=>by
  have hd1:s.data.toList.drop (p+1)=List.replicate d 33++ [97]:=tx_next (c:=33) (by rw [hd,List.replicate_succ];rfl)
  have hv:=bang_sees (g:=2) (.inr rfl) hd1
  have tt:=ns_till 33 (d+1) p
  refine bang_un (f:=F+5+d) (ns_opn 33 d p) ?_
  refine PM.fell ?_
  unfold prefixS
  rw [PM.go take_z,tt,PM.go (peek_new hv),ns_from]
  by_cases hf:ne=4000
  ·rw [deeper_full (by omega),show((p:Int)+(4000 - ne)+1)=((p+1:Nat):Int) by omega]
  ·have e1:=bang_bad (m:=m) F d (p+1) (ne+1) ar hd1 (by omega) (by omega) (by omega)
   rw [show (((p+1:Nat):Int)+(4000 - (ne+1))+1)=(p:Int)+(4000 - ne)+1 by omega] at e1
   exact deeper_bad (by omega) e1
def blK (d p:Nat):Tk:=if d=0 then ⟨5,⟨#[125]⟩,(p:Int),((p+1:Nat):Int),false⟩ else ⟨5,⟨#[123]⟩,(p:Int),((p+1:Nat):Int),false⟩
def blT (d:Nat) (r:List UInt8):List UInt8:=List.replicate d 123++(List.replicate d 125++r)
theorem blT_1 (d:Nat) (r:List UInt8):blT (d+1) r=123::blT d (125::r):=by
 unfold blT
 rw [List.replicate_succ,List.replicate_succ',List.cons_append,List.append_assoc]
 rfl
theorem brace_sees {x:UInt8} {l:List UInt8} {p:Nat} {g:Int} (hg:g=1∨g=2) (hx:x=123∨x=125) (hd:s.data.toList.drop p=x::l):Sees s g p ⟨5,⟨#[x]⟩,(p:Int),((p+1:Nat):Int),false⟩:=by
 have hp:pct g (x::l)=1:=by rcases hx with rfl|rfl<;>exact(pct_no (by decide)).trans rfl
 rcases hx with rfl|rfl<;>exact sees_mark hg hd (by decide) (by decide) (by decide) (by decide) (by decide) hp
theorem bl_sees {d p:Nat} {r:List UInt8} {g:Int} (hg:g=1∨g=2) (hd:s.data.toList.drop p=blT d (125::r)):Sees s g p (blK d p):=by
 cases d with
 |zero=>exact brace_sees hg (.inr rfl) hd
 |succ d=>rw [blT_1] at hd;exact brace_sees hg (.inl rfl) hd
theorem bl_till (d p:Nat):(blK d p).till=((p+1:Nat):Int):=by unfold blK;split<;>rfl
theorem bl_from (d p:Nat):(blK d p).from'=(p:Int):=by unfold blK;split<;>rfl
theorem bl_opn (d p:Nat):Opn 123 (blK (d+1) p):=⟨rfl,rfl⟩
theorem bl_cls (p:Nat):Opn 125 (blK 0 p):=⟨rfl,rfl⟩
theorem bl_rest {r:List UInt8} : ∀ {d p:Nat},s.data.toList.drop p=blT d r→s.data.toList.drop (p+2*d)=r
 |0,_,h=>h
 |d+1,p,h=>by
  rw [blT_1] at h
  have h2:=bl_rest (d:=d) (tx_next h)
  have h3:=tx_next h2
  rw [show p+2*(d+1)=p+1+2*d+1 by omega]
  exact h3
theorem stmt_block {m:Bool} {t:Tk} {f:Nat} (ht:Opn 123 t) (p:Ps):runQ s m (f+1) (.statement t true) p=runQ s m f .block p:=by
 show statementQ s m (runQ s m f) t true p=_
 unfold statementQ
 rw [if_pos (.inr (by rw [ht.kind];decide))]
 unfold statementS
 rw [if_neg (by decide),if_pos ht.yes]
theorem modular_no {m:Bool} {t:Tk} {f:Nat} (p:Ps):runQ s m (f+1) (.modular t false) p= .ok .zero p:=rfl
theorem one_stmt {m:Bool} {t:Tk} {f:Nat} {i g fl ne ar:Int} {r:Res Nd} (hs:runQ s m (f+1) (.statement t true) (Zs i t g fl (ne+1) ar)=r):
  (do
    let m'←runQ s m (f+1) (.modular t false)
    if m'.kind=0 then runQ s m (f+1) (.statement t true) else return m':PM Nd) (Zs i t g fl (ne+1) ar)=r:=by
 rw [PM.go (modular_no _),if_pos (show Nd.zero.kind=0 from rfl)]
 exact hs
theorem block_ok {m:Bool} (F:Nat): ∀(d p:Nat) (r:List UInt8) (ne ar:Int),s.data.toList.drop p=blT (d+1) r→0≤ne→ne+d≤4000→
  ∃n tk,runQ s m (F+6+3*d) (.statement (blK (d+1) p) true) (Zs p (blK (d+1) p) 2 1 ne ar)= .ok n (Zs ((p+2*d+2:Nat):Int) tk 0 1 ne ar)∧n.kind=58∧noProp n=true∧ndSize n=d+1
 |0,p,r,ne,ar,hd,h0,h1=>by
  have hv:=bl_sees (g:=2) (.inr rfl) (d:=0) (p:=p+1) (r:=r) (tx_next (c:=123) (by rw [hd,blT_1]))
  have hst:runQ s m (F+4) (.statements false false 1) (Zs ((p+1:Nat):Int) (blK 1 p) 0 1 ne ar)= .ok [] (Zs ((p+1:Nat):Int) (blK 0 (p+1)) 2 1 ne ar):=by
   show statementsS.partL s (runQ s m (F+3)) false 1 (F+3) false [] _=_
   unfold statementsS.partL
   rw [PM.go (peek_new hv),if_pos (by unfold endB;rw [if_neg (by decide),if_pos rfl];exact(bl_cls _).yes)]
   rfl
  refine⟨.mk 58 ⟨#[]⟩ [] (p:Int) ((p+2:Nat):Int),blK 0 (p+1),?_,rfl,rfl,rfl⟩
  rw [show F+6+3*0=F+5+1 by omega,stmt_block (bl_opn 0 p)]
  show blockS s (runQ s m (F+4)) _=_
  unfold blockS
  have hw:=want_yes (s:=s) (x:=⟨#[123]⟩) (tk:=blK 1 p) (g':=2) (i:=(p:Int)) (t:=blK 1 p) (g:=2) (fl:=1) (ne:=ne) (ar:=ar) (peek_12 (by decide) (by decide) (by decide) ((bl_opn 0 p).slash (by decide))) (bl_opn 0 p).yes
  rw [bl_till] at hw
  rw [PM.go hw,PM.go hst,PM.go take_z,bl_till,bl_from]
  rfl
 |d+1,p,r,ne,ar,hd,h0,h1=>by
  rw [blT_1] at hd
  have hd1:=tx_next hd
  have hv:=bl_sees (g:=2) (.inr rfl) (d:=d+1) (p:=p+1) (r:=r) hd1
  obtain⟨n,tk,e1,e2,e3,e4⟩:=block_ok (m:=m) F d (p+1) (125::r) (ne+1) ar hd1 (by omega) (by omega)
  have hq:=bl_rest (d:=d+1) hd1
  have hc:=brace_sees (g:=2) (.inr rfl) (.inr rfl) hq
  have hst:runQ s m (F+6+3*d+1) (.statements false false 1) (Zs ((p+1:Nat):Int) (blK (d+1+1) p) 0 1 ne ar)= .ok [n] (Zs ((p+1+2*(d+1):Nat):Int) (blK 0 (p+1+2*(d+1))) 2 1 ne ar):=by
   show statementsS.partL s (runQ s m (F+6+3*d)) false 1 (F+6+3*d) false [] _=_
   rw [show F+6+3*d=F+5+3*d+1 by omega] at e1⊢
   unfold statementsS.partL
   rw [PM.go (peek_new hv),if_neg (by unfold endB;rw [if_neg (by decide),if_pos rfl,(bl_opn d (p+1)).no (by decide)];decide)]
   rw [PM.go (deeper_z (a:=n) h0 (by omega) (one_stmt e1)),if_neg (by simp)]
   rw [show F+5+3*d=F+4+3*d+1 by omega]
   unfold statementsS.partL
   rw [show ((p+1+2*d+2:Nat):Int)=((p+1+2*(d+1):Nat):Int) by omega,PM.go (peek_new hc),if_pos (by unfold endB;rw [if_neg (by decide),if_pos rfl];rfl)]
   rfl
  refine⟨.mk 58 ⟨#[]⟩ [n] (p:Int) ((p+2*(d+1)+2:Nat):Int),blK 0 (p+1+2*(d+1)),?_,rfl,one_prop (by decide) e3,by rw [one_size,e4]⟩
  rw [show F+6+3*(d+1)=F+6+3*d+1+1+1 by omega,stmt_block (bl_opn (d+1) p)]
  show blockS s (runQ s m (F+6+3*d+1)) _=_
  unfold blockS
  have hw:=want_yes (s:=s) (x:=⟨#[123]⟩) (tk:=blK (d+1+1) p) (g':=2) (i:=(p:Int)) (t:=blK (d+1+1) p) (g:=2) (fl:=1) (ne:=ne) (ar:=ar) (peek_12 (by decide) (by decide) (by decide) ((bl_opn (d+1) p).slash (by decide))) (bl_opn (d+1) p).yes
  rw [bl_till] at hw
  rw [PM.go hw,PM.go hst,PM.go take_z,bl_till,bl_from,show p+1+2*(d+1)+1=p+2*(d+1)+2 by omega]
  rfl
theorem block_bad {m:Bool} (F:Nat): ∀(d p:Nat) (r:List UInt8) (ne ar:Int),s.data.toList.drop p=blT (d+1) r→0≤ne→ne≤4000→4000<ne+d→
  runQ s m (F+6+3*d) (.statement (blK (d+1) p) true) (Zs p (blK (d+1) p) 2 1 ne ar)= .bad 1002 (p+(4000 - ne)+1)
 |0,p,r,ne,ar,hd,h0,h1,h2=>by omega
 |d+1,p,r,ne,ar,hd,h0,h1,h2=>by
  rw [blT_1] at hd
  have hd1:=tx_next hd
  have hv:=bl_sees (g:=2) (.inr rfl) (d:=d+1) (p:=p+1) (r:=r) hd1
  have hst:runQ s m (F+6+3*d+1) (.statements false false 1) (Zs ((p+1:Nat):Int) (blK (d+1+1) p) 0 1 ne ar)= .bad 1002 (p+(4000 - ne)+1):=by
   show statementsS.partL s (runQ s m (F+6+3*d)) false 1 (F+6+3*d) false [] _=_
   rw [show F+6+3*d=F+5+3*d+1 by omega]
   unfold statementsS.partL
   rw [PM.go (peek_new hv),if_neg (by unfold endB;rw [if_neg (by decide),if_pos rfl,(bl_opn d (p+1)).no (by decide)];decide)]
   refine PM.fell ?_
   rw [bl_from]
   by_cases hf:ne=4000
   ·rw [deeper_full (by omega),show((p:Int)+(4000 - ne)+1)=((p+1:Nat):Int) by omega]
   ·have e1:=block_bad (m:=m) F d (p+1) (125::r) (ne+1) ar hd1 (by omega) (by omega) (by omega)
    rw [show (((p+1:Nat):Int)+(4000 - (ne+1))+1)=(p:Int)+(4000 - ne)+1 by omega,show F+6+3*d=F+5+3*d+1 by omega] at e1
    exact deeper_bad (by omega) (one_stmt e1)
  rw [show F+6+3*(d+1)=F+6+3*d+1+1+1 by omega,stmt_block (bl_opn (d+1) p)]
  show blockS s (runQ s m (F+6+3*d+1)) _=_
  unfold blockS
  have hw:=want_yes (s:=s) (x:=⟨#[123]⟩) (tk:=blK (d+1+1) p) (g':=2) (i:=(p:Int)) (t:=blK (d+1+1) p) (g:=2) (fl:=1) (ne:=ne) (ar:=ar) (peek_12 (by decide) (by decide) (by decide) ((bl_opn (d+1) p).slash (by decide))) (bl_opn (d+1) p).yes
  rw [bl_till] at hw
  rw [PM.go hw]
  exact PM.fell hst
theorem simple_ok {m:Bool} {t:Tk} {f j:Nat} {ne ar ar2:Int} {n:Nd} (hk:t.kind=5) (h1:punctT t ⟨#[123]⟩=false) (h2:punctT t ⟨#[59]⟩=false) (ha:runQ s m f .assign (Zs 0 t 2 1 ne ar)= .ok n (Zs (j:Int) (endT j) 1 1 ne ar2)):
  runQ s m (f+3) (.statement t true) (Zs 0 t 2 1 ne ar)= .ok (.mk 57 ⟨#[]⟩ [n] t.from' (j:Int)) (Zs (j:Int) (endT j) 1 1 ne ar2):=by
 show statementQ s m (runQ s m (f+2)) t true _=_
 unfold statementQ
 rw [if_pos (.inr (by rw [hk];decide))]
 unfold statementS
 rw [if_neg (by decide),if_neg (by rw [h1];decide),if_neg (by rw [h2];decide),if_pos (by rw [hk];decide)]
 show simpleS s (runQ s m (f+1)) t _=_
 unfold simpleS
 have hsc:semicolonP s (Zs (j:Int) (endT j) 1 1 ne ar2)= .ok () (Zs (j:Int) (endT j) 1 1 ne ar2):=by
  unfold semicolonP
  rw [PM.go (peek_old (by decide)),if_neg (by show¬(punctT (endT j) _=true);rw [show punctT (endT j) ⟨#[59]⟩=false from rfl];decide),if_neg (by simp [endT])]
  rfl
 rw [PM.go (expression_z ha rfl),PM.go hsc]
 rfl
theorem simple_bad {m:Bool} {t:Tk} {f:Nat} {ne ar c k:Int} (hk:t.kind=5) (h1:punctT t ⟨#[123]⟩=false) (h2:punctT t ⟨#[59]⟩=false) (ha:runQ s m f .assign (Zs 0 t 2 1 ne ar)= .bad c k):
  runQ s m (f+3) (.statement t true) (Zs 0 t 2 1 ne ar)= .bad c k:=by
 show statementQ s m (runQ s m (f+2)) t true _=_
 unfold statementQ
 rw [if_pos (.inr (by rw [hk];decide))]
 unfold statementS
 rw [if_neg (by decide),if_neg (by rw [h1];decide),if_neg (by rw [h2];decide),if_pos (by rw [hk];decide)]
 show simpleS s (runQ s m (f+1)) t _=_
 unfold simpleS
 refine PM.fell ?_
 show expressionS s f (runQ s m f) _=_
 unfold expressionS
 exact PM.fell ha
theorem prog_of {t:Tk} {f j:Nat} {g2 ar2:Int} {n:Nd} {tk:Tk} (h2:Sees s 2 0 t) (hk:t.kind≠0) (hs:runQ s false (f+2) (.statement t true) (Zs 0 t 2 1 1 (-1))= .ok n (Zs (j:Int) tk g2 1 1 ar2)) (hn:n.kind=58∨n.kind=57∧∃k,n.kids.head? =some k∧k.kind≠4)
  (he: ∀ne,peekP s 2 (Zs (j:Int) tk g2 1 ne ar2)= .ok (endT j) (Zs (j:Int) (endT j) 2 1 ne ar2)∨peekP s 2 (Zs (j:Int) tk g2 1 ne ar2)= .ok (endT j) (Zs (j:Int) (endT j) 1 1 ne ar2)) (hp:noProp n=true) (hz:ndSize n≤7000):
  ∃N q,programQ s false (f+4)= .ok N q∧ndSize N≤8000:=by
 have key: ∀dir,statementsS.partL s (runQ s false (f+2)) false 0 (f+1) dir [n] (Zs (j:Int) tk g2 1 0 ar2)= .ok [n] (Zs (j:Int) (endT j) 2 1 0 ar2)∨statementsS.partL s (runQ s false (f+2)) false 0 (f+1) dir [n] (Zs (j:Int) tk g2 1 0 ar2)= .ok [n] (Zs (j:Int) (endT j) 1 1 0 ar2):=by
  intro dir
  unfold statementsS.partL
  rcases he 0 with h|h
  ·rw [PM.go h,if_pos (show endB 0 (endT j)=true from rfl)];exact .inl rfl
  ·rw [PM.go h,if_pos (show endB 0 (endT j)=true from rfl)];exact .inr rfl
 have hst: ∃g,runQ s false (f+3) (.statements true false 0) (Zs 0 Tk.zero 0 1 0 (-1))= .ok [n] (Zs (j:Int) (endT j) g 1 0 ar2):=by
  have h0: ∀r,statementsS.partL s (runQ s false (f+2)) false 0 (f+2) true [] (Zs 0 Tk.zero 0 1 0 (-1))=r→runQ s false (f+3) (.statements true false 0) (Zs 0 Tk.zero 0 1 0 (-1))=r:=fun r h=>h
  have h1: ∀r,(if true && decide (n.kind=57) then do
    let k←ofO n.kids.head?
    if k.kind=4 then outP else statementsS.partL s (runQ s false (f+2)) false 0 (f+1) false ([]++ [n])
   else statementsS.partL s (runQ s false (f+2)) false 0 (f+1) false ([]++ [n]):PM (List Nd)) (Zs (j:Int) tk g2 1 0 ar2)=r→statementsS.partL s (runQ s false (f+2)) false 0 (f+2) true [] (Zs 0 Tk.zero 0 1 0 (-1))=r:=by
   intro r h
   unfold statementsS.partL
   rw [PM.go (peek_new h2),if_neg (by unfold endB;rw [if_pos rfl,decide_eq_false hk];decide),PM.go (deeper_z (a:=n) (by decide) (by decide) (one_stmt hs))]
   exact h
  have h3: ∃g,statementsS.partL s (runQ s false (f+2)) false 0 (f+1) false [n] (Zs (j:Int) tk g2 1 0 ar2)= .ok [n] (Zs (j:Int) (endT j) g 1 0 ar2):=by
   rcases key false with h|h
   ·exact⟨_,h⟩
   ·exact⟨_,h⟩
  obtain⟨g,h3⟩:=h3
  refine⟨g,h0 _ (h1 _ ?_)⟩
  rcases hn with hn|⟨hn,k,e1,e2⟩
  ·rw [if_neg (by rw [hn];decide)]
   exact h3
  ·rw [if_pos (by rw [hn];decide),e1]
   show(if k.kind=4 then _ else _:PM (List Nd)) _=_
   rw [if_neg e2]
   exact h3
 obtain⟨g,hst⟩:=hst
 have hprog:runQ s false (f+4) .program (ps0 false)= .ok (.mk 86 ⟨#[]⟩ [n] 0 s.size) (Zs (endT j).till (endT j) 0 1 0 ar2):=by
  show programS s false (runQ s false (f+3)) (Zs 0 Tk.zero 0 1 0 (-1))=_
  unfold programS
  rw [PM.go hst,PM.go take_z]
  rfl
 have hN:ndSize (.mk 86 ⟨#[]⟩ [n] 0 s.size)≤8000:=by rw [one_size];omega
 refine⟨_,Zs (endT j).till (endT j) 0 1 0 ar2,?_,hN⟩
 ·have hd:=deep_le (.mk 86 ⟨#[]⟩ [n] 0 s.size)
  unfold programQ readQ
  rw [PM.go hprog,if_neg (by rw [one_prop (by decide) hp];decide),if_neg (by omega),if_neg (by omega)]
  rfl
theorem prog_bad {t:Tk} {f:Nat} {c k:Int} (h2:Sees s 2 0 t) (hk:t.kind≠0) (hs:runQ s false (f+2) (.statement t true) (Zs 0 t 2 1 1 (-1))= .bad c k):programQ s false (f+4)= .bad c k:=by
 have hst:runQ s false (f+3) (.statements true false 0) (Zs 0 Tk.zero 0 1 0 (-1))= .bad c k:=by
  show statementsS.partL s (runQ s false (f+2)) false 0 (f+2) true [] _=_
  unfold statementsS.partL
  rw [PM.go (peek_new h2),if_neg (by unfold endB;rw [if_pos rfl,decide_eq_false hk];decide)]
  exact PM.fell (deeper_bad (by decide) (one_stmt hs))
 unfold programQ readQ
 refine PM.fell ?_
 show programS s false (runQ s false (f+3)) (Zs 0 Tk.zero 0 1 0 (-1))=_
 unfold programS
 exact PM.fell hst
end
def NsQ (s:ByteArray) (bad:Bool) (place:Int):Prop:= ∃F,F≤100000∧if bad then programQ s false F= .bad 1002 place else∃n q,programQ s false F= .ok n q∧ndSize n≤8000
theorem ns_brackets {s:ByteArray} {c e:UInt8} {K:Nat} (hc:NsC c e K) (k:Nat) (h1:1≤k) (h2:k≤4100) (hs:s.data.toList=List.replicate k c++97::List.replicate k e):NsQ s (decide (4000<k+2)) 3999:=by
 obtain⟨d,rfl⟩: ∃d,k=d+1:=⟨k - 1,by omega⟩
 have hd:s.data.toList.drop 0=nsT c e (d+1) []:=by rw [List.drop_zero,hs];unfold nsT;rw [List.append_nil]
 have hv:=ns_sees (g:=2) (.inr rfl) hc.b hd (.inl rfl)
 have ht:=ns_opn c d 0
 have hne:(⟨#[c]⟩:ByteArray)≠⟨#[123]⟩∧(⟨#[c]⟩:ByteArray)≠⟨#[59]⟩:=by rcases hc with ⟨rfl,_⟩|⟨rfl,_⟩<;>decide
 have hK:K≤11:=by rcases hc with ⟨_,_,rfl⟩|⟨_,_,rfl⟩<;>omega
 have hKd:K*(d+1)≤11*(d+1):=Nat.mul_le_mul_right _ hK
 refine⟨0+10+K*(d+1)+5,by omega,?_⟩
 by_cases hb:4000<d+1+2
 ·rw [decide_eq_true hb,if_pos rfl]
  have h:=nest_bad (m:=false) hc 0 (d+1) 0 [] 1 (-1) hd (.inl rfl) (by decide) (by decide) (by omega)
  rw [show (((0:Nat):Int)+(4000 - 1))=3999 by decide] at h
  exact prog_bad (f:=0+10+K*(d+1)+1) hv (by rw [ht.kind];decide) (simple_bad ht.kind (ht.no hne.1) (ht.no hne.2) h)
 ·rw [decide_eq_false hb,if_neg (by decide)]
  have hr:=nsT_rest hd
  have hsz:s.size=0+2*(d+1)+1:=by
   have h:=congrArg List.length hs
   rw [List.length_append,List.length_cons,List.length_replicate,List.length_replicate] at h
   have h2:s.data.toList.length=s.size:=Array.length_toList
   omega
  have hu:=sees_end (g:=1) (.inl rfl) hr (by omega)
  obtain⟨n,ar2,e1,e2,e3,e4,e5⟩:=(nest_ok (m:=false) hc 0 (d+1) 0 [] 1 (-1) _ hd (.inl rfl) hu (cls_end _) (by decide) (by omega)).ex
  have hs1:=simple_ok ht.kind (ht.no hne.1) (ht.no hne.2) e1
  exact prog_of (f:=0+10+K*(d+1)+1) hv (by rw [ht.kind];decide) hs1 (.inr ⟨rfl,n,rfl,by omega⟩) (fun ne=> .inr (peek_12 (by decide) (by decide) (by decide) rfl)) (one_prop (by decide) e4) (by rw [one_size,e5];omega)
theorem ns_bangs {s:ByteArray} (k:Nat) (h1:1≤k) (h2:k≤4100) (hs:s.data.toList=List.replicate k 33++ [97]):NsQ s (decide (4000<k+2)) 3999:=by
 obtain⟨d,rfl⟩: ∃d,k=d+1:=⟨k - 1,by omega⟩
 have hd:s.data.toList.drop 0=List.replicate (d+1) 33++ [97]:=hs
 have hv:=bang_sees (g:=2) (.inr rfl) hd
 have hd1:s.data.toList.drop (0+1)=List.replicate d 33++ [97]:=tx_next (c:=33) (by rw [hd,List.replicate_succ];rfl)
 have hv1:=bang_sees (g:=1) (.inl rfl) hd1
 have ht:=ns_opn 33 d 0
 have har:punctT (nsK 33 d (0+1)) ⟨#[61,62]⟩=false:=by
  cases d with
  |zero=>exact(ns_nm 33 _).punctT _
  |succ d=>exact(ns_opn 33 d _).no (by decide)
 have hself:peekP s 2 (Zs 0 (nsK 33 (d+1) 0) 2 1 (1+1) ((nsK 33 (d+1) 0).from'))= .ok _ _:=peek_old (by decide)
 refine⟨0+5+(d+1)+9,by omega,?_⟩
 by_cases hb:4000<d+1+2
 ·rw [decide_eq_true hb,if_pos rfl]
  have h:=bang_bad (m:=false) 0 (d+1) 0 (1+1) (nsK 33 (d+1) 0).from' hd (by decide) (by decide) (by omega)
  rw [show (((0:Nat):Int)+(4000 - (1+1))+1)=3999 by decide] at h
  have ha:=climbU_bad (m:=false) (f:=0+5+d) (ne:=1) (ar:= -1) (i:=0) (g:=2) (p:=Zs 0 (nsK 33 (d+1) 0) 2 1 1 (-1)) (by rw [ht.kind];decide) (ht.name _) (ht.name _) (peek_old (by decide)) hself h (by rw [ns_till];exact hv1) har (by decide)
  exact prog_bad (f:=0+5+d+6) hv (by rw [ht.kind];decide) (simple_bad ht.kind (ht.no (by decide)) (ht.no (by decide)) ha)
 ·rw [decide_eq_false hb,if_neg (by decide)]
  obtain⟨n,e1,e2,e3,e4⟩:=bang_ok (m:=false) 0 (d+1) 0 (1+1) (nsK 33 (d+1) 0).from' hd (by decide) (by omega)
  have ha:=climbU (m:=false) (f:=0+5+d) (ne:=1) (ar:= -1) (i:=0) (g:=2) (p:=Zs 0 (nsK 33 (d+1) 0) 2 1 1 (-1)) (by rw [ht.kind];decide) (ht.name _) (ht.name _) (peek_old (by decide)) hself e1 (by omega) (cls_end _) (by rw [ns_till];exact hv1) har (by decide) (by decide)
  have hs1:=simple_ok ht.kind (ht.no (by decide)) (ht.no (by decide)) ha
  exact prog_of (f:=0+5+d+6) hv (by rw [ht.kind];decide) hs1 (.inr ⟨rfl,n,rfl,by omega⟩) (fun ne=> .inr (peek_12 (by decide) (by decide) (by decide) rfl)) (one_prop (by decide) e3) (by rw [one_size,e4];omega)
theorem ns_blocks {s:ByteArray} (k:Nat) (h1:1≤k) (h2:k≤4100) (hs:s.data.toList=List.replicate k 123++List.replicate k 125):NsQ s (decide (4000<k)) 4000:=by
 obtain⟨d,rfl⟩: ∃d,k=d+1:=⟨k - 1,by omega⟩
 have hd:s.data.toList.drop 0=blT (d+1) []:=by rw [List.drop_zero,hs];unfold blT;rw [List.append_nil]
 have hv:Sees s 2 0 (blK (d+1) 0):=brace_sees (.inr rfl) (.inl rfl) (l:=blT d [125]) (by rw [hd,blT_1])
 have ht:=bl_opn d 0
 refine⟨0+4+3*d+4,by omega,?_⟩
 by_cases hb:4000<d+1
 ·rw [decide_eq_true hb,if_pos rfl]
  have h:=block_bad (m:=false) 0 d 0 [] 1 (-1) hd (by decide) (by decide) (by omega)
  rw [show (((0:Nat):Int)+(4000 - 1)+1)=4000 by decide] at h
  exact prog_bad (f:=0+4+3*d) hv (by rw [ht.kind];decide) (by rw [show 0+4+3*d+2=0+6+3*d by omega];exact h)
 ·rw [decide_eq_false hb,if_neg (by decide)]
  obtain⟨n,tk,e1,e2,e3,e4⟩:=block_ok (m:=false) 0 d 0 [] 1 (-1) hd (by decide) (by omega)
  have hr:=bl_rest hd
  have hsz:s.size=2*(d+1):=by
   have h:=congrArg List.length hs
   rw [List.length_append,List.length_replicate,List.length_replicate] at h
   have h2:s.data.toList.length=s.size:=Array.length_toList
   omega
  rw [show 0+2*(d+1)=0+2*d+2 by omega] at hr
  have hu:=sees_end (g:=2) (.inr rfl) hr (by omega)
  exact prog_of (f:=0+4+3*d) hv (by rw [ht.kind];decide) (by rw [show 0+4+3*d+2=0+6+3*d by omega];exact e1) (.inl e2) (fun ne=> .inl (peek_new hu)) e3 (by omega)
end
section
open Go.RowKit
theorem bits_and (q c:Int) (m:Nat) (hc:(BitVec.ofInt 64 c).toNat=m) (hm:m<9223372036854775808): ∃n:Nat,n≤m∧bits .and .i64 q c=(n:Int):=by
 have h:(BitVec.ofInt 64 q &&& BitVec.ofInt 64 c).toNat≤m:=by
  rw [BitVec.toNat_and,hc]
  exact Nat.and_le_right
 refine⟨(BitVec.ofInt 64 q &&& BitVec.ofInt 64 c).toNat,h,?_⟩
 show IntKind.i64.wrap ((BitVec.ofInt 64 q &&& BitVec.ofInt 64 c).toNat:Int)=_
 refine IntWalk.i64_in _ ?_
 omega
def opN:List (List UInt8):= [[40],[91],[123],[33]]
def clN:List (List UInt8):= [[41],[93],[125],[]]
def rep:Nat→List UInt8→List UInt8
 |0,_=> []
 |n+1,l=>rep n l++l
theorem rep_nil: ∀n,rep n []= []
 |0=>rfl
 |n+1=>by rw [rep,rep_nil n];rfl
theorem rep_one (c:UInt8): ∀n,rep n [c]=List.replicate n c
 |0=>rfl
 |n+1=>by rw [rep,rep_one c n,List.replicate_succ']
theorem rep_len {l:List UInt8} (h:l.length≤1): ∀n,(rep n l).length≤n
 |0=>Nat.le_refl _
 |n+1=>by
  have:=rep_len h n
  rw [rep,List.length_append]
  omega
theorem ns_small {s:ByteArray} {k:Nat} (h:manyQ s k 60=true) (place:Int):NsQ s false place:=by
 unfold manyQ at h
 cases hs:programQ s false 60 with
 |out=>rw [hs] at h;cases h
 |bad c i=>rw [hs] at h;cases h
 |ok n q=>
  rw [hs] at h
  simp only [Bool.and_eq_true,decide_eq_true_eq] at h
  refine⟨60,by decide,?_⟩
  rw [if_neg (by decide)]
  exact⟨n,q,hs,h.1⟩
set_option maxRecDepth 100000 in
theorem ns_a:manyQ ⟨#[97]⟩ 1 60=true:=by decide+kernel
set_option maxRecDepth 100000 in
theorem ns_0:manyQ ⟨#[]⟩ 0 60=true:=by decide+kernel
theorem nests_read {s:ByteArray} (j k:Nat) (hj:j<4) (hk:k≤4100) (hs:s.data.toList=(rep k (opN[j]'hj)++(if j=2 then [] else [97]))++rep k (clN[j]'hj)):
  NsQ s (decide (4000<k+(if j=2 then 0 else 2))) (if j=2 then 4000 else 3999):=by
 by_cases h0:k=0
 ·subst h0
  have hsz: ∀l:List UInt8,s.data.toList=l→s=⟨l.toArray⟩:=by rintro l rfl;rfl
  by_cases h2:j=2
  ·subst h2
   rw [hsz [] hs]
   exact ns_small ns_0 _
  ·rw [if_neg h2] at hs⊢
   rw [hsz [97] hs]
   exact ns_small ns_a _
 have h1:1≤k:=by omega
 match j,hj with
 |0,_=>
  refine ns_brackets (c:=40) (e:=41) (K:=11) (.inl ⟨rfl,rfl,rfl⟩) k h1 hk ?_
  rw [hs]
  show(rep k [40]++ [97])++rep k [41]=_
  rw [rep_one,rep_one,List.append_assoc]
  rfl
 |1,_=>
  refine ns_brackets (c:=91) (e:=93) (K:=10) (.inr ⟨rfl,rfl,rfl⟩) k h1 hk ?_
  rw [hs]
  show(rep k [91]++ [97])++rep k [93]=_
  rw [rep_one,rep_one,List.append_assoc]
  rfl
 |2,_=>
  refine ns_blocks k h1 hk ?_
  rw [hs]
  show(rep k [123]++ [])++rep k [125]=_
  rw [rep_one,rep_one,List.append_nil]
 |3,_=>
  refine ns_bangs k h1 hk ?_
  rw [hs]
  show(rep k [33]++ [97])++rep k []=_
  rw [rep_one,rep_nil,List.append_nil]
theorem string_own {w:World} {B:Nat} {v:Value} {l:List UInt8} (h:w.ownsRow B 5 1 v l.length (Lib.byteCells l)):(convert 25 9 v).run Tryz.prog w= .ok (.string ⟨l.toArray⟩) w:=by
 have hb:=h
 rcases h.2 with ⟨rfl,h0⟩|⟨g,cap,cur,rfl,_⟩
 ·rw [List.length_eq_zero_iff.1 h0]
  exact run_convert_bytes_nil w 25 5 (by kernel_rfl) (by kernel_rfl) 0 0 9 (by kernel_rfl)
 ·refine run_convert_bytes_back w 25 9 5 ⟨g,0,none⟩ cap l (by kernel_rfl) (by kernel_rfl) (by kernel_rfl) fun j hj=> ?_
  refine hb.cells (g:=g) rfl j _ ?_
  simp [Lib.byteCells,List.getElem?_eq_getElem hj]
structure NSB (w:World) (l:List UInt8) (v:Value) (wr:World):Prop where
 own:wr.ownsRow w.heap.size 5 1 v l.length (Lib.byteCells l)
 bel:Below w.heap.size w wr
theorem infoU8:(Tryz.prog.info? 5).map (fun i=>(i.zero,i.size,i.bytes))=some (some (.int .u8 0),1,1):=by kernel_rfl
theorem cell_one (w:World) (u:Value) (T:TypeId): ∀j x,([u]:List Value)[j]? =some x→(w.alloc (.cells #[u] T)).cell? ((⟨w.heap.size,0,none⟩:Addr).add j)=some x:=by
 intro j x h
 cases j with
 |zero=>
  show(w.alloc (.cells #[u] T)).cell? ⟨w.heap.size,0,none⟩=some x
  rw [cell_of_row _ _ 0 _ T (0,0) (heap_alloc_new _ _)]
  exact h
 |succ j=>simp at h
theorem own_base {B g n m:Nat} {T:TypeId} {w:World} {v:Value} {xs:List Value} (h:w.ownsRow B T m v n xs) (hg:v.ownBlock=some g):B≤g:=by
 rcases h.2 with ⟨rfl,_⟩|⟨g',cap,cur,rfl,hb,_⟩
 ·cases hg
 ·cases hg;exact hb
theorem NSB.next {w wr w':World} {v v':Value} {l x:List UInt8} {s:ByteArray} (h:NSB w l v wr) (hs:s.data.toList=x) (hown:w'.ownsRow w.heap.size 5 1 v' (l.length+s.size) (Lib.byteCells l++Lib.strCells s)) (hg:wr.grownBy w' v.ownBlock):NSB w (l++x) v' w':=by
 subst hs
 refine⟨?_,h.bel.grown hg h.bel.size fun k hk=>own_base h.own hk⟩
 have e:s.data.toList.length=s.size:=Array.length_toList
 rw [List.length_append,e]
 unfold Lib.byteCells Lib.strCells at*
 rw [List.map_append]
 exact hown
theorem NSB.one {w wr w':World} {v v':Value} {l:List UInt8} {c:UInt8} {o:Obj} (h:NSB w l v wr) (hown:w'.ownsRow w.heap.size 5 1 v' (l.length+1) (Lib.byteCells l++ [.int .u8 c.toNat])) (hg:(wr.alloc o).grownBy w' v.ownBlock):NSB w (l++ [c]) v' w':=by
 refine⟨?_,(h.bel.alloc h.bel.size o).grown hg (by rw [World.size_alloc];have:=h.bel.size;omega) fun k hk=>own_base h.own hk⟩
 rw [List.length_append]
 unfold Lib.byteCells at*
 rw [List.map_append]
 exact hown
theorem opN_len: ∀o ∈ opN,o.length≤1:=by decide
theorem clN_len: ∀o ∈ clN,o.length≤1:=by decide
set_option maxRecDepth 100000 in
set_option maxHeartbeats 16000000 in
theorem nests_any (a b:Int) (w:World) (hx:Lx w):Calls Tryz.prog 3 #[.int .i64 a,.int .i64 b] w fun e w'=>e= .returned (.bool true)∧Below w.heap.size w w':=by
 have HX:=Lib.hid hx
 clear hx
 obtain⟨k,hk,hcase⟩: ∃k:Nat,k≤4021∧(((bits .and .i64 a 7==0)=true∧wrap64 (3990+bits .and .i64 (a / 8) 31)=(k:Int))∨((bits .and .i64 a 7==0)=false∧bits .and .i64 a 255=(k:Int))):=by
  obtain⟨k1,hk1,e1⟩:=bits_and a 255 255 (by decide) (by decide)
  obtain⟨k3,hk3,e3⟩:=bits_and (a / 8) 31 31 (by decide) (by decide)
  cases h:(bits .and .i64 a 7==0) with
  |true=>exact⟨3990+k3,by omega,.inl ⟨rfl,by rw [e3,IntWalk.wrap64_in _ (by omega)];omega⟩⟩
  |false=>exact⟨k1,by omega,.inr ⟨rfl,e1⟩⟩
 obtain⟨j,hj,e4⟩:=bits_and b 3 3 (by decide) (by decide)
 have hj4:j<4:=by omega
 go_enter Tryz.func3,Tryz.ntmps3
 go_wp2_with fail
 refine(awake_any w HX.out).mono ?_
 rintro e w1 ⟨rfl,hb1⟩
 have HB1:=Lib.hid hb1
 have HK:=Lib.hid hk
 clear hb1 hk
 obtain⟨i1,hi1,hz1,hz2,hz3⟩:=info_parts infoU8
 obtain⟨o,ho⟩: ∃o,opN[j]'hj4=o:=⟨_,rfl⟩
 obtain⟨c,hc0⟩: ∃c,clN[j]'hj4=c:=⟨_,rfl⟩
 have hol:=opN_len o (ho▸List.getElem_mem _)
 have hcl:=clN_len c (hc0▸List.getElem_mem _)
 obtain⟨O,hO⟩: ∃O:ByteArray,(⟨o.toArray⟩:ByteArray)=O:=⟨_,rfl⟩
 obtain⟨C,hC⟩: ∃C:ByteArray,(⟨c.toArray⟩:ByteArray)=C:=⟨_,rfl⟩
 have hOl:O.data.toList=o:=by rw [←hO]
 have hCl:C.data.toList=c:=by rw [←hC]
 have hOs:O.size≤1:=by rw [ba_size hOl];exact hol
 have hCs:C.size≤1:=by rw [ba_size hCl];exact hcl
 have cx1:=(StrS.new w1 opN 9).2 j hj4
 rw [ho,hO] at cx1
 have cx2:=(StrS.new (w1.alloc (.cells #[.string ⟨#[40]⟩,.string ⟨#[91]⟩,.string ⟨#[123]⟩,.string ⟨#[33]⟩] 9)) clN 9).2 j hj4
 rw [hc0,hC,World.size_alloc] at cx2
 replace cx1:(w1.alloc (.cells #[.string ⟨#[40]⟩,.string ⟨#[91]⟩,.string ⟨#[123]⟩,.string ⟨#[33]⟩] 9)).cell? ⟨w1.heap.size,j,none⟩=some (.string O):=cx1
 replace cx2:((w1.alloc (.cells #[.string ⟨#[40]⟩,.string ⟨#[91]⟩,.string ⟨#[123]⟩,.string ⟨#[33]⟩] 9)).alloc (.cells #[.string ⟨#[41]⟩,.string ⟨#[93]⟩,.string ⟨#[125]⟩,.string ⟨#[]⟩] 9)).cell? ⟨w1.heap.size+1,j,none⟩=some (.string C):=cx2
 have hb3:Below w.heap.size w ((w1.alloc (.cells #[.string ⟨#[40]⟩,.string ⟨#[91]⟩,.string ⟨#[123]⟩,.string ⟨#[33]⟩] 9)).alloc (.cells #[.string ⟨#[41]⟩,.string ⟨#[93]⟩,.string ⟨#[125]⟩,.string ⟨#[]⟩] 9)):=bel_next (bel_next HB1.out (alloc_bel w1 (.cells #[.string ⟨#[40]⟩,.string ⟨#[91]⟩,.string ⟨#[123]⟩,.string ⟨#[33]⟩] 9))) (alloc_bel (w1.alloc (.cells #[.string ⟨#[40]⟩,.string ⟨#[91]⟩,.string ⟨#[123]⟩,.string ⟨#[33]⟩] 9)) (.cells #[.string ⟨#[41]⟩,.string ⟨#[93]⟩,.string ⟨#[125]⟩,.string ⟨#[]⟩] 9))
 have na:(0:Int)≤(j:Int):=by omega
 have ma:(j:Int)<4:=by omega
 have la:IntKind.i64.wrap (j:Int)=j:=by rw [IntKind.wrap_i64];omega
 have HR:=Lib.hid (fun(S:ByteArray) (hS:S.data.toList=(rep k o++(if j=2 then [] else [97]))++rep k c)=>nests_read j k hj4 (by have:=HK.out;omega) (by rw [ho,hc0];exact hS))
 clear hO hC ho hc0
 rcases hcase with ⟨hc,hc2⟩|⟨hc,hc2⟩
 all_goals
  go_upto_region 8 with fail
  (try rw [hc2])
  clear hc hc2 cx1 cx2 na ma la
  have HB:=Lib.hid hb3
  clear hb3
  generalize (World.alloc (World.alloc w1 _) _)=wb at*
  have HN:Hid (NSB wb (rep 0 o) (.slice (some ⟨wb.heap.size,0,none⟩) 0 0) (wb.alloc (.cells #[] 5))):=Lib.hid ⟨World.ownsRow_lit wb #[] 0 (Nat.le_refl _) (by decide) rfl,Below.alloc (Below.refl _ _) (Nat.le_refl _) _⟩
  go_wp2_with fail
  go_loopw [8,9] (fun v i wr=> ∃m:Nat,m≤k∧i= .int .i64 m∧NSB wb (rep m o) v wr) (fun _ i _=>k - (intOf i).toNat)
  case atStart=>exact⟨0,Nat.zero_le _,rfl,HN.out⟩
  case round=>
   clear HN
   obtain⟨m,hm,rfl,hn⟩:=hrel
   have HN:=Lib.hid hn
   clear hn
   have hrl:=rep_len hol m
   have hkk:=HK.out
   by_cases hlt:m<k
   ·have hlt':(m:Int)<(k:Int):=by omega
    go_wp2_with (at_builtin;refine Lib.wpList_append_own_string _ rfl _ _ 25 9 rfl wb.heap.size 5 i1 (by kernel_rfl) (by kernel_rfl) hi1 hz1 hz2 hz3 _ _ _ rfl HN.out.own O rfl (by unfold maxLen;omega) (by omega) HN.out.bel.size ?_)
    intro v6 w6 hown6 hg6 _
    go_wp2_with fail
    go_roundw
    case rel=>exact⟨m+1,hlt,by go_num,HN.out.next hOl hown6 hg6⟩
    case measure=>simp [intOf];omega
   ·obtain rfl:m=k:=by omega
    by_cases h2:j=2
    ·have hj2:((j:Int)==2)=true:=beq_iff_eq.2 (by omega)
     have hj3:((j:Int) !=2)=false:=by rw [bne_eq_false_iff_eq];omega
     rw [if_pos h2,if_pos h2,if_pos h2] at HR
     clear h2
     have HN2:Hid (NSB wb ((rep m o++ [])++rep 0 c) u8 wr):=Lib.hid (by rw [List.append_nil];show NSB wb (rep m o++ []) u8 wr;rw [List.append_nil];exact HN.out)
     clear HN
     go_wp2_with fail
     go_loopw [8,10] (fun v i wr=> ∃q:Nat,q≤m∧i= .int .i64 q∧NSB wb ((rep m o++ [])++rep q c) v wr) (fun _ i _=>m - (intOf i).toNat)
     case atStart=>exact⟨0,Nat.zero_le _,rfl,HN2.out⟩
     case round=>
      clear HN2
      obtain⟨q,hq,rfl,hn⟩:=hrel
      obtain⟨L,hL⟩: ∃L,((rep m o++ [])++rep q c)=L:=⟨_,rfl⟩
      rw [hL] at hn
      have HN:=Lib.hid hn
      have HLE:=Lib.hid hL
      have hrl2:=rep_len hcl q
      have hLl:L.length≤m+1+q:=by rw [←hL];rw [List.length_append,List.length_append];simp only [List.length_nil];omega
      clear hn hL
      by_cases hlt2:q<m
      ·have hlt2':(q:Int)<(m:Int):=by omega
       go_wp2_with (at_builtin;refine Lib.wpList_append_own_string _ rfl _ _ 25 9 rfl wb.heap.size 5 i1 (by kernel_rfl) (by kernel_rfl) hi1 hz1 hz2 hz3 _ _ _ rfl HN.out.own C rfl (by unfold maxLen;omega) (by omega) HN.out.bel.size ?_)
       intro v6 w6 hown6 hg6 _
       go_wp2_with fail
       go_roundw
       case rel=>exact⟨q+1,hlt2,by go_num,by rw [rep,←List.append_assoc,HLE.out];exact HN.out.next hCl hown6 hg6⟩
       case measure=>simp [intOf];omega
      ·obtain rfl:q=m:=by omega
       have hstr:=string_own HN.out.own
       obtain⟨S,hS⟩: ∃S:ByteArray,(⟨L.toArray⟩:ByteArray)=S:=⟨_,rfl⟩
       have hSl:S.data.toList=L:=by rw [←hS]
       have hSs:S.size≤1048576:=by rw [ba_size hSl];omega
       rw [hS] at hstr
       obtain⟨F,hF,hrd⟩:=HR.out S (hSl.trans HLE.out.symm)
       have HBX:=Lib.hid (bel_next HB.out HN.out.bel)
       clear hSl hS hrl hrl2 hLl hlt hlt2 HLE
       by_cases hbig:4000<q+0
       ·rw [decide_eq_true (show 4000<q+0 from hbig),if_pos rfl] at hrd
        have hbg: ¬((q:Int)+0≤4000):=by omega
        have hbg0:((q:Int)+0≤4000)=False:=eq_false hbg
        go_wp2_with fail
        refine(Program_tieT false F hSs (by omega) _ (HX.out.bel HBX.out) hrd (by intro h;cases h)).mono ?_
        rintro e w5 ⟨h7,hb5⟩
        obtain rfl:=h7
        go_wp2_with (go_at_call 9;refine(num_any _ _).mono ?_;rintro e w9 ⟨rfl,rfl⟩)
        go_ret
        exact⟨rfl,bel_next (bel_next HBX.out hb5) (alloc_bel w5 _)⟩
       ·rw [decide_eq_false (show¬4000<q+0 from hbig),if_neg (by decide)] at hrd
        have hbg:(q:Int)+0≤4000:=by omega
        obtain⟨n,qs,hrd,_⟩:=hrd
        go_wp2_with fail
        refine(Program_tieT false F hSs (by omega) _ (HX.out.bel HBX.out) hrd (by intro h;cases h)).mono ?_
        rintro e w5 ⟨⟨a9,c9,sa,sc,rfl,_,_⟩,hb5⟩
        go_wp2_with (go_at_call 9;refine(num_any _ _).mono ?_;rintro e w9 ⟨rfl,rfl⟩)
        go_ret
        exact⟨rfl,bel_next (bel_next HBX.out hb5) (alloc_bel w5 _)⟩
    ·have hj2:((j:Int)==2)=false:=beq_eq_false_iff_ne.2 (by omega)
     have hj3:((j:Int) !=2)=true:=by rw [bne_iff_ne];omega
     rw [if_neg h2,if_neg h2,if_neg h2] at HR
     go_wp2_with (at_builtin;refine wpList_append_own_at _ rfl _ _ 25 rfl wb.heap.size 5 i1 (.int .u8 0) 1 1 (by kernel_rfl) hi1 hz1 hz2 hz3 rfl (by decide) _ _ _ rfl (HN.out.own.alloc _) ⟨wr.heap.size,0,none⟩ 1 1 [.int .u8 97] rfl rfl (cell_one _ _ _) (fun u hu=>by simp at hu;subst hu;rfl) (by unfold maxLen;omega) (by omega) (by rw [World.size_alloc];have:=HN.out.bel.size;omega) ?_)
     intro v6 w6 hown6 hg6 _ _
     have HN2:Hid (NSB wb ((rep m o++ [97])++rep 0 c) v6 w6):=Lib.hid (by show NSB wb ((rep m o++ [97])++ []) v6 w6;rw [List.append_nil];exact HN.out.one hown6 hg6)
     clear HN hown6 hg6
     go_wp2_with fail
     go_loopw [8,10] (fun v i wr=> ∃q:Nat,q≤m∧i= .int .i64 q∧NSB wb ((rep m o++ [97])++rep q c) v wr) (fun _ i _=>m - (intOf i).toNat)
     case atStart=>exact⟨0,Nat.zero_le _,rfl,HN2.out⟩
     case round=>
      clear HN2
      obtain⟨q,hq,rfl,hn⟩:=hrel
      obtain⟨L,hL⟩: ∃L,((rep m o++ [97])++rep q c)=L:=⟨_,rfl⟩
      rw [hL] at hn
      have HN:=Lib.hid hn
      have HLE:=Lib.hid hL
      have hrl2:=rep_len hcl q
      have hLl:L.length≤m+1+q:=by rw [←hL];rw [List.length_append,List.length_append];simp only [List.length_nil,List.length_cons];omega
      clear hn hL
      by_cases hlt2:q<m
      ·have hlt2':(q:Int)<(m:Int):=by omega
       go_wp2_with (at_builtin;refine Lib.wpList_append_own_string _ rfl _ _ 25 9 rfl wb.heap.size 5 i1 (by kernel_rfl) (by kernel_rfl) hi1 hz1 hz2 hz3 _ _ _ rfl HN.out.own C rfl (by unfold maxLen;omega) (by omega) HN.out.bel.size ?_)
       intro v6 w6 hown6 hg6 _
       go_wp2_with fail
       go_roundw
       case rel=>exact⟨q+1,hlt2,by go_num,by rw [rep,←List.append_assoc,HLE.out];exact HN.out.next hCl hown6 hg6⟩
       case measure=>simp [intOf];omega
      ·obtain rfl:q=m:=by omega
       have hstr:=string_own HN.out.own
       obtain⟨S,hS⟩: ∃S:ByteArray,(⟨L.toArray⟩:ByteArray)=S:=⟨_,rfl⟩
       have hSl:S.data.toList=L:=by rw [←hS]
       have hSs:S.size≤1048576:=by rw [ba_size hSl];omega
       rw [hS] at hstr
       obtain⟨F,hF,hrd⟩:=HR.out S (hSl.trans HLE.out.symm)
       have HBX:=Lib.hid (bel_next HB.out HN.out.bel)
       clear hSl hS hrl hrl2 hLl hlt hlt2 HLE
       by_cases hbig:4000<q+2
       ·rw [decide_eq_true (show 4000<q+2 from hbig),if_pos rfl] at hrd
        have hbg: ¬((q:Int)+2≤4000):=by omega
        have hbg0:((q:Int)+2≤4000)=False:=eq_false hbg
        go_wp2_with fail
        refine(Program_tieT false F hSs (by omega) _ (HX.out.bel HBX.out) hrd (by intro h;cases h)).mono ?_
        rintro e w5 ⟨h7,hb5⟩
        obtain rfl:=h7
        go_wp2_with (go_at_call 9;refine(num_any _ _).mono ?_;rintro e w9 ⟨rfl,rfl⟩)
        go_ret
        exact⟨rfl,bel_next (bel_next HBX.out hb5) (alloc_bel w5 _)⟩
       ·rw [decide_eq_false (show¬4000<q+2 from hbig),if_neg (by decide)] at hrd
        have hbg:(q:Int)+2≤4000:=by omega
        obtain⟨n,qs,hrd,_⟩:=hrd
        go_wp2_with fail
        refine(Program_tieT false F hSs (by omega) _ (HX.out.bel HBX.out) hrd (by intro h;cases h)).mono ?_
        rintro e w5 ⟨⟨a9,c9,sa,sc,rfl,_,_⟩,hb5⟩
        go_wp2_with (go_at_call 9;refine(num_any _ _).mono ?_;rintro e w9 ⟨rfl,rfl⟩)
        go_ret
        exact⟨rfl,bel_next (bel_next HBX.out hb5) (alloc_bel w5 _)⟩
end
end Go.Proofs.YthihchocfcdagaaGreatDoor
