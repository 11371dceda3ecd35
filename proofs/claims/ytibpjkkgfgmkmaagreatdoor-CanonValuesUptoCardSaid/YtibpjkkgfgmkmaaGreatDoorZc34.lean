/- Steps (LkP LkL). Conditions: as stated. -/
import Derived.Test.YtibpjkkgfgmkmaaGreatDoorZc33
namespace Go.Proofs.YtibpjkkgfgmkmaaGreatDoor
section
open Go.RowKit
section
variable {s:ByteArray} {m:Bool} {i g fl ne ar:Int} {u v t d b e o a c q:Tk} {n:Nd} {p:Ps} {f:Nat}
structure Cls (c:Tk):Prop where
 stp:Stp c
 q:punctT c ⟨#[63]⟩=false
 asg:af1 c=false
 arr:punctT c ⟨#[61,62]⟩=false
 com:punctT c ⟨#[44]⟩=false
def LkM (s:ByteArray) (i j:Int):Prop:= ∃b:Tk,Sees s 1 i b∧b.kind=1∧b.text=⟨#[109]⟩∧b.till=j
def LkC (s:ByteArray) (i j:Int):Prop:= ∃o a c:Tk,Sees s 1 i o∧punctT o ⟨#[40]⟩=true∧Nm a∧a.text=⟨#[97]⟩∧Sees s 2 o.till a∧Sees s 1 a.till c∧punctT c ⟨#[41]⟩=true∧Cls c∧c.till=j
def LkX (s:ByteArray) (i j:Int):Prop:= ∃o a c:Tk,Sees s 1 i o∧punctT o ⟨#[91]⟩=true∧Nm a∧a.text=⟨#[105]⟩∧Sees s 2 o.till a∧Sees s 1 a.till c∧punctT c ⟨#[93]⟩=true∧Cls c∧c.till=j
def LkO (s:ByteArray) (i:Int) (P:Int→Prop):Prop:= ∃q:Tk,Sees s 1 i q∧punctT q ⟨#[63,46]⟩=true∧P q.till
def LkI (s:ByteArray) (i:Int) (k:Nat) (j:Int):Prop:=match k with
 |0=> ∃d:Tk,Sees s 1 i d∧punctT d ⟨#[46]⟩=true∧LkM s d.till j
 |1=>LkC s i j
 |2=>LkX s i j
 |3=>LkO s i fun h=>LkM s h j
 |4=>LkO s i fun h=>LkC s h j
 |_=>LkO s i fun h=>LkX s h j
def LkR (s:ByteArray) (e:Tk):Int→List Nat→Prop
 |i,[]=>Sees s 1 i e
 |i,k::l=> ∃j,LkI s i k j∧LkR s e j l
theorem LkI.head {k:Nat} {j:Int} (h:LkI s i k j): ∃v,Sees s 1 i v∧v.kind=5:=by
 have key: ∀ {t:Tk} {x:ByteArray},punctT t x=true→t.kind=5:=fun h=>by
  unfold punctT at h
  rw [Bool.and_eq_true,decide_eq_true_eq] at h
  exact h.1
 match k,h with
 |0,⟨d,h,h2,_⟩=>exact⟨d,h,key h2⟩
 |1,⟨d,_,_,h,h2,_⟩=>exact⟨d,h,key h2⟩
 |2,⟨d,_,_,h,h2,_⟩=>exact⟨d,h,key h2⟩
 |3,⟨d,h,h2,_⟩=>exact⟨d,h,key h2⟩
 |4,⟨d,h,h2,_⟩=>exact⟨d,h,key h2⟩
 |_+5,⟨d,h,h2,_⟩=>exact⟨d,h,key h2⟩
theorem LkR.head {l:List Nat} (h:LkR s e i l): ∃v,Sees s 1 i v:=by
 match l,h with
 | [],h=>exact⟨e,h⟩
 |k::l,⟨j,h,_⟩=>obtain⟨v,h,_⟩:=h.head;exact⟨v,h⟩
end
end
section
open Go.RowKit
end
end Go.Proofs.YtibpjkkgfgmkmaaGreatDoor
