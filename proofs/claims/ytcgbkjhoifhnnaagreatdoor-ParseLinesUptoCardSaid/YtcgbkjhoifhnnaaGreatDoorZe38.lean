/- Steps (LkP LkL). Conditions: as stated. -/
import Derived.Test.YtcgbkjhoifhnnaaGreatDoorZe37
namespace Go.Proofs.YtcgbkjhoifhnnaaGreatDoor
section
open Go.RowKit
section
variable {s:ByteArray} {m:Bool} {i g fl ne ar:Int} {u v t d b e o a c q:Tk} {n:Nd} {p:Ps} {f:Nat}
structure Cls (c:Tk):Prop where
 stp:Stp c
 q:punctT c ⟨#[63]⟩=false
 asg:ae6 c=false
 arr:punctT c ⟨#[61,62]⟩=false
 com:punctT c ⟨#[44]⟩=false
theorem bE7 (f:Nat) (hp:ab2 s 1 p= .ok o (Zs i o 1 1 ne ar)) (ho:punctT o ⟨#[40]⟩=true) (ha:Nm a) (hsa:Sees s 2 o.till a) (hc:Sees s 1 a.till c) (hcp:punctT c ⟨#[41]⟩=true) (hcl:Cls c) (h0:0≤ne) (h1:ne<4000):
  runQ s m (f+12) .args p= .ok (.mk 36 ⟨#[]⟩ [aa8 1 a] o.from' c.till) (Zs c.till c 0 1 ne a.from'):=by
 show aQ8 s (runQ s m (f+11)) p=_
 unfold aQ8
 have hw:am9 s ⟨#[40]⟩ p= .ok o (Zs o.till o 0 1 ne ar):=by
  unfold am9
  rw [PM.go hp,if_pos ho]
  rfl
 rw [PM.go hw]
 show ak7 s (f+10) (runQ s m (f+10)) o.from' _=_
 unfold ak7
 have hsp:runQ s m (f+10) .spread (Zs o.till a 2 1 ne ar)= .ok (aa8 1 a) (Zs a.till c 1 1 ne a.from'):=by
  show aw9 s (runQ s m (f+9)) _=_
  unfold aw9
  rw [PM.go (ac1 (by decide)),if_neg (by rw [ha.punctT];decide)]
  exact ap5 f ha (.inr rfl) (ac1 (by decide)) hc hcl.stp hcl.q hcl.asg hcl.arr h0 h1
 have hone:(if 4194304<([]:List Nd).length then outP else do
   let k←runQ s m (f+10) .spread
   ap7 s k
   return ([]:List Nd)++ [k]:PM (List Nd)) (Zs o.till a 2 1 ne ar)= .ok [aa8 1 a] (Zs a.till c 1 1 ne a.from'):=by
  rw [if_neg (by decide),PM.go hsp]
  unfold ap7
  rw [if_neg (show¬(aa8 1 a).kind=18 by show¬(1:Int)=18;decide)]
  rfl
 have hl:as0 s ⟨#[41]⟩ 2 (fun kids=>if 4194304<kids.length then outP else do
   let k←runQ s m (f+10) .spread
   ap7 s k
   return kids++ [k]) (f+10) ([]:List Nd) false (Zs o.till o 0 1 ne ar)= .ok ([aa8 1 a],false) (Zs c.till c 0 1 ne a.from'):=by
  unfold as0
  rw [PM.go (ac2 hsa),if_neg (by rw [ha.punctT];decide),PM.go hone,PM.go (ac1 (by decide)),if_pos hcp,PM.go ak6]
  rfl
 rw [PM.go (ba6 hl)]
 rfl
theorem aJ1 {x:UInt8} (h:punctT d ⟨#[x]⟩=true) {y:ByteArray} (hy:(⟨#[x]⟩:ByteArray)≠y):punctT d y=false:=by
 unfold punctT at h⊢
 rw [Bool.and_eq_true,decide_eq_true_eq,decide_eq_true_eq] at h
 rw [h.2,decide_eq_false hy,Bool.and_false]
theorem br5 (f:Nat) (n:Nd) (tmpl:Bool) (hp:ab2 s 1 p= .ok o (Zs i o 1 1 ne ar)) (ho:punctT o ⟨#[40]⟩=true) (ha:Nm a) (hsa:Sees s 2 o.till a) (hc:Sees s 1 a.till c) (hcp:punctT c ⟨#[41]⟩=true) (hcl:Cls c) (h0:0≤ne) (h1:ne<4000):
  runQ s m (f+13) (.link n true tmpl) p= .ok (.mk 35 ⟨#[]⟩ [n,.mk 36 ⟨#[]⟩ [aa8 1 a] o.from' c.till] n.from' c.till,true) (Zs c.till c 0 1 ne a.from'):=by
 show aE7 s (runQ s m (f+12)) n true tmpl _=_
 unfold aE7
 rw [PM.go hp,if_neg (by rw [aJ1 ho (by decide)];decide),if_neg (by rw [aJ1 ho (by decide)];decide),if_pos (by rw [ho];rfl),PM.go (bE7 f (ac1 (by decide)) ho ha hsa hc hcp hcl h0 h1)]
 rfl
def LkM (s:ByteArray) (i j:Int):Prop:= ∃b:Tk,Sees s 1 i b∧b.kind=1∧b.text=⟨#[109]⟩∧b.till=j
def LkC (s:ByteArray) (i j:Int):Prop:= ∃o a c:Tk,Sees s 1 i o∧punctT o ⟨#[40]⟩=true∧Nm a∧a.text=⟨#[97]⟩∧Sees s 2 o.till a∧Sees s 1 a.till c∧punctT c ⟨#[41]⟩=true∧Cls c∧c.till=j
def LkX (s:ByteArray) (i j:Int):Prop:= ∃o a c:Tk,Sees s 1 i o∧punctT o ⟨#[91]⟩=true∧Nm a∧a.text=⟨#[105]⟩∧Sees s 2 o.till a∧Sees s 1 a.till c∧punctT c ⟨#[93]⟩=true∧Cls c∧c.till=j
def LkO (s:ByteArray) (i:Int) (P:Int→Prop):Prop:= ∃q:Tk,Sees s 1 i q∧punctT q ⟨#[63,46]⟩=true∧P q.till
def LkI (s:ByteArray) (i:Int) (k:Nat) (j:Int):Prop:=match k with
 |0=> ∃d:Tk,Sees s 1 i d∧punctT d ⟨#[46]⟩=true∧LkM s d.till j
 |1=>LkC s i j
 |2=>LkX s i j
 |3=>LkO s i fun h=>LkM s h j
 |4=>LkO s i fun h=>LkC s h j
 |_=>LkO s i fun h=>LkX s h j
def LkR (s:ByteArray) (e:Tk):Int→List Nat→Prop
 |i,[]=>Sees s 1 i e
 |i,k::l=> ∃j,LkI s i k j∧LkR s e j l
def idN (x:UInt8):Nd:= .mk 1 ⟨#[x]⟩ [] 0 0
theorem LkI.head {k:Nat} {j:Int} (h:LkI s i k j): ∃v,Sees s 1 i v∧v.kind=5:=by
 have key: ∀ {t:Tk} {x:ByteArray},punctT t x=true→t.kind=5:=fun h=>by
  unfold punctT at h
  rw [Bool.and_eq_true,decide_eq_true_eq] at h
  exact h.1
 match k,h with
 |0,⟨d,h,h2,_⟩=>exact⟨d,h,key h2⟩
 |1,⟨d,_,_,h,h2,_⟩=>exact⟨d,h,key h2⟩
 |2,⟨d,_,_,h,h2,_⟩=>exact⟨d,h,key h2⟩
 |3,⟨d,h,h2,_⟩=>exact⟨d,h,key h2⟩
 |4,⟨d,h,h2,_⟩=>exact⟨d,h,key h2⟩
 |_+5,⟨d,h,h2,_⟩=>exact⟨d,h,key h2⟩
theorem LkR.head {l:List Nat} (h:LkR s e i l): ∃v,Sees s 1 i v:=by
 match l,h with
 | [],h=>exact⟨e,h⟩
 |k::l,⟨j,h,_⟩=>obtain⟨v,h,_⟩:=h.head;exact⟨v,h⟩
end
end
section
open Go.RowKit
end
end Go.Proofs.YtcgbkjhoifhnnaaGreatDoor
