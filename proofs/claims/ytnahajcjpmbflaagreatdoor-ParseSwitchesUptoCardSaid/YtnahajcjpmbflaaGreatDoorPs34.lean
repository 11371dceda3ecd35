/- Steps (Tk OpP Lx OpL OpE Ly). Conditions: as stated. -/
import Derived.Test.YtnahajcjpmbflaaGreatDoorPn09
namespace Go.Proofs.YtnahajcjpmbflaaGreatDoor
section
open Go.RowKit
def Zs (i:Int) (t:Tk) (g fl ne ar:Int):Ps:=⟨i,t,[],g,[],fl,ne,ar,[]⟩
def Sees (s:ByteArray) (g:Int) (i:Int) (t:Tk):Prop:=0≤i∧i≤(s.size:Int)∧∃q n,nxt s i.toNat g= .fine t.kind q n t.line []∧tkOf s t.kind q n t.line=t
def slashT (t:Tk):Bool:=Lib.hasPrefix t.text.data.toList [47]
theorem PM.go {α β:Type} {x:PM α} {f:α→PM β} {p q:Ps} {a:α} (h:x p= .ok a q):(x>>=f) p=f a q:=by
 show PM.bind x f p=_
 unfold PM.bind
 rw [h]
section
variable {s:ByteArray} {g g' i fl ne ar:Int} {t tk:Tk}
theorem peek_new (h:Sees s g i t):peekP s g (Zs i tk 0 fl ne ar)= .ok t (Zs i t g fl ne ar):=by
 obtain⟨h0,h1,q,n,h2,h3⟩:=h
 unfold peekP cachedB Zs
 rw [if_neg (by simp)]
 unfold freshP
 simp only
 rw [if_neg (by omega),h2]
 simp only
 rw [h3]
theorem peek_old (hg:g≠0):peekP s g (Zs i t g fl ne ar)= .ok t (Zs i t g fl ne ar):=by
 unfold peekP cachedB Zs
 rw [if_pos (by simp [hg])]
theorem peek_12 (h1:g'≠0) (h2:g'≤2) (h3:g≤2) (hs:slashT t=false):peekP s g (Zs i t g' fl ne ar)= .ok t (Zs i t g' fl ne ar):=by
 unfold slashT at hs
 unfold peekP cachedB Zs
 rw [if_pos (by simp [h1,h2,h3,hs])]
theorem take_z:takeP (Zs i t g fl ne ar)= .ok t (Zs t.till t 0 fl ne ar):=rfl
theorem look_z (h:Sees s 1 i t) (p:Ps):lookP s i p= .ok t p:=by
 obtain⟨h0,h1,q,n,h2,h3⟩:=h
 unfold lookP lookT
 rw [if_neg (by omega),h2]
 simp only
 rw [h3]
 rfl
theorem is_no {x:ByteArray} (hp:peekP s 1 (Zs i tk g' fl ne ar)= .ok t (Zs i t g fl ne ar)) (h:punctT t x=false):isP s x (Zs i tk g' fl ne ar)= .ok false (Zs i t g fl ne ar):=by
 unfold isP
 rw [PM.go hp,if_neg (by rw [h];decide)]
 rfl
theorem is_yes {x:ByteArray} (hp:peekP s 1 (Zs i tk g' fl ne ar)= .ok t (Zs i t g fl ne ar)) (h:punctT t x=true):isP s x (Zs i tk g' fl ne ar)= .ok true (Zs t.till t 0 fl ne ar):=by
 unfold isP
 rw [PM.go hp,if_pos h]
 rfl
theorem want_yes {x:ByteArray} (hp:peekP s 1 (Zs i tk g' fl ne ar)= .ok t (Zs i t g fl ne ar)) (h:punctT t x=true):wantP s x (Zs i tk g' fl ne ar)= .ok t (Zs t.till t 0 fl ne ar):=by
 unfold wantP
 rw [PM.go hp,if_pos h]
 rfl
end
structure Nm (t:Tk):Prop where
 kind:t.kind=1
 res:oneOf t.text resW=false
 aw:t.text≠⟨#[97,119,97,105,116]⟩
 asy:t.text≠⟨#[97,115,121,110,99]⟩
 sl:slashT t=false
theorem oneOf_ne {t:ByteArray} {l:List ByteArray} (h:oneOf t l=false) {x:ByteArray} (hx:oneOf x l=true):t≠x:=by
 rintro rfl
 rw [h] at hx
 cases hx
theorem Nm.ne {t:Tk} (h:Nm t) {x:ByteArray} (hx:oneOf x resW=true):t.text≠x:=oneOf_ne h.res hx
theorem Nm.nameT {t:Tk} (h:Nm t) {x:ByteArray} (hx:oneOf x resW=true):nameT t x=false:=by
 unfold Go.Proofs.YtnahajcjpmbflaaGreatDoor.nameT
 rw [decide_eq_false (h.ne hx),Bool.and_false]
theorem Nm.punctT {t:Tk} (h:Nm t) (x:ByteArray):punctT t x=false:=by
 unfold Go.Proofs.YtnahajcjpmbflaaGreatDoor.punctT
 rw [h.kind]
 rfl
theorem Nm.ident {t:Tk} (h:Nm t) (m:Bool) (fl:Int):identB m fl t=true:=by
 unfold identB reservedB
 rw [if_neg h.aw,h.res,h.kind,decide_eq_true h.aw]
 simp
theorem nameT_ne {t:Tk} {x:ByteArray} (h:t.text≠x):nameT t x=false:=by
 unfold nameT
 rw [decide_eq_false h,Bool.and_false]
theorem punctT_kind {t:Tk} {x:ByteArray} (h:t.kind≠5):punctT t x=false:=by
 unfold punctT
 rw [decide_eq_false h,Bool.false_and]
theorem punctT_ne {t:Tk} {x:ByteArray} (h:t.text≠x):punctT t x=false:=by
 unfold punctT
 rw [decide_eq_false h,Bool.and_false]
theorem nameT_kind {t:Tk} {x:ByteArray} (h:t.kind≠1):nameT t x=false:=by
 unfold nameT
 rw [decide_eq_false h,Bool.false_and]
structure Endy (u:Tk):Prop where
 dot:punctT u ⟨#[46]⟩=false
 brk:punctT u ⟨#[91]⟩=false
 par:punctT u ⟨#[40]⟩=false
 opt:punctT u ⟨#[63,46]⟩=false
 k7:u.kind≠7
 k8:u.kind≠8
 inc:punctT u ⟨#[43,43]⟩=false
 dec:punctT u ⟨#[45,45]⟩=false
section
variable {s:ByteArray} {m:Bool} {g i fl ne ar:Int} {t u tk:Tk}
theorem named_z (f:Nat) (h:Nm t) (hg:g=1∨g=2):runQ s m (f+1) (.named t) (Zs i t g fl ne ar)= .ok (leafN 1 t) (Zs t.till t 0 fl ne ar):=by
 show namedS s m (runQ s m f) t _=_
 have h1:oneOf t.text [⟨#[116,104,105,115]⟩,⟨#[110,117,108,108]⟩,⟨#[116,114,117,101]⟩,⟨#[102,97,108,115,101]⟩]=false:=by
  unfold oneOf
  rw [List.any_eq_false]
  intro x hx
  simp only [List.mem_cons,List.not_mem_nil,or_false] at hx
  rcases hx with rfl|rfl|rfl|rfl<;>(rw [decide_eq_false (h.ne (by decide))];decide)
 unfold namedS
 rw [if_neg (by rw [h1];decide),if_neg (h.ne (by decide)),if_neg (h.ne (by decide)),if_neg h.asy]
 unfold takeIdentP
 have hp:peekP s 1 (Zs i t g fl ne ar)= .ok t (Zs i t g fl ne ar):=peek_12 (by omega) (by omega) (by omega) h.sl
 rw [PM.go hp]
 show(if identB m fl t then _ else _:PM Nd) _=_
 rw [if_pos (h.ident m fl),PM.go take_z]
 rfl
theorem base_z (f:Nat) (h:Nm t) (hg:g=1∨g=2) (calls:Bool):runQ s m (f+3) (.base t calls) (Zs i t g fl ne ar)= .ok (leafN 1 t) (Zs t.till t 0 fl ne ar):=by
 show baseS s m (runQ s m (f+2)) t calls _=_
 unfold baseS
 rw [if_neg (by rw [h.nameT (by decide)];decide),if_neg (by rw [h.nameT (by decide)];decide),if_neg (by rw [h.nameT (by decide)];decide)]
 show primaryS (runQ s m (f+1)) t _=_
 have hk:=h.kind
 unfold primaryS
 rw [if_neg (by omega),if_neg (by omega),if_neg (by omega),if_pos hk]
 exact named_z f h hg
theorem link_no (f:Nat) (n:Nd) (calls tmpl:Bool) (hu:Endy u) (hp:peekP s 1 (Zs i tk g fl ne ar)= .ok u (Zs i u 1 fl ne ar)):runQ s m (f+1) (.link n calls tmpl) (Zs i tk g fl ne ar)= .ok (n,false) (Zs i u 1 fl ne ar):=by
 show linkS s (runQ s m f) n calls tmpl _=_
 unfold linkS
 rw [PM.go hp,if_neg (by rw [hu.dot];decide),if_neg (by rw [hu.brk];decide),if_neg (by rw [hu.par];simp),if_neg (by have:=hu.k7;have:=hu.k8;omega)]
 rfl
theorem get_z (p:Ps):getP p= .ok p p:=rfl
theorem peek_self (hg:g=1∨g=2) (hs:slashT t=false) {g2:Int} (h2:g2≤2):peekP s g2 (Zs i t g fl ne ar)= .ok t (Zs i t g fl ne ar):=peek_12 (by omega) (by omega) h2 hs
theorem leaf_k (t:Tk): ¬(leafN 1 t).kind=22:=by
 show¬(1:Int)=22
 decide
theorem left_z (f:Nat) {p:Ps} (h:Nm t) (hg:g=1∨g=2) (hp:peekP s 2 p= .ok t (Zs i t g fl ne ar)) (hu:Endy u) (hs:Sees s 1 t.till u):
  runQ s m (f+4) .leftHand p= .ok (leafN 1 t) (Zs t.till u 1 fl ne ar):=by
 show leftHandS s (f+3) (runQ s m (f+3)) p=_
 unfold leftHandS
 rw [PM.go hp,PM.go (get_z _)]
 show(runQ s m (f+3) (.base t true)>>=_) _=_
 rw [PM.go (base_z f h hg true),if_neg (leaf_k t),if_neg (by rw [show decide ((leafN 1 t).text=⟨#[97,115,121,110,99]⟩)=false from decide_eq_false h.asy];simp)]
 unfold leftHandS.linkL
 rw [PM.go (peek_new hs),if_neg (by rw [hu.opt];decide),PM.go (link_no (f+2) (leafN 1 t) true true hu (peek_old (by decide))),if_neg (show¬((false:Bool)=true) by decide)]
 rfl
theorem unary_z (f:Nat) {p:Ps} (h:Nm t) (hg:g=1∨g=2) (hp:peekP s 2 p= .ok t (Zs i t g fl ne ar)) (hu:Endy u) (hs:Sees s 1 t.till u):
  runQ s m (f+5) .unary p= .ok (leafN 1 t) (Zs t.till u 1 fl ne ar):=by
 show unaryS s (runQ s m (f+4)) p=_
 unfold unaryS
 rw [PM.go hp,if_neg (by rw [h.nameT (by decide),h.nameT (by decide),h.nameT (by decide),h.punctT,h.punctT,h.punctT,h.punctT];decide),PM.go (get_z _),if_neg (by rw [nameT_ne h.aw];simp),if_neg (by rw [h.punctT,h.punctT];decide),PM.go (left_z f h hg (peek_self hg h.sl (by decide)) hu hs),if_neg (leaf_k t),PM.go (peek_old (by decide)),if_neg (by rw [hu.inc,hu.dec];simp)]
 rfl
theorem operand_z (f:Nat) (least:Int) {p:Ps} (h:Nm t) (hg:g=1∨g=2) (hp:peekP s 2 p= .ok t (Zs i t g fl ne ar)) (hu:Endy u) (hs:Sees s 1 t.till u):
  runQ s m (f+6) (.operand least) p= .ok (leafN 1 t) (Zs t.till u 1 fl ne ar):=by
 show operandS s (runQ s m (f+5)) least p=_
 unfold operandS
 rw [PM.go hp,if_pos (by rw [h.kind];decide)]
 exact unary_z f h hg (peek_self hg h.sl (by decide)) hu hs
end
end
section
open Go.RowKit
structure Opr (o:Tk):Prop where
 op:(decide (o.kind≠5) && !nameT o ⟨#[105,110,115,116,97,110,99,101,111,102]⟩ && !nameT o ⟨#[105,110]⟩)=false
 lo:2≤levelB o.text
 hi:levelB o.text≤12
 star:levelB o.text=12↔o.text=⟨#[42,42]⟩
 e:Endy o
structure Stp (u:Tk):Prop where
 op:(decide (u.kind≠5) && !nameT u ⟨#[105,110,115,116,97,110,99,101,111,102]⟩ && !nameT u ⟨#[105,110]⟩)=true∨levelB u.text=0
 e:Endy u
section
variable {s:ByteArray}
def Row (s:ByteArray):Int→List (Tk × Tk)→Tk→Prop
 |i,[],e=>Sees s 1 i e
 |i,x::l,e=>Sees s 1 i x.1∧Opr x.1∧Sees s 2 x.1.till x.2∧Nm x.2∧Row s x.2.till l e
def lastT:Tk→List (Tk × Tk)→Tk
 |v,[]=>v
 |_,x::l=>lastT x.2 l
def headT:List (Tk × Tk)→Tk→Tk
 | [],e=>e
 |x::_,_=>x.1
theorem Row.drop {e:Tk} : ∀ {a b:List (Tk × Tk)} {v:Tk},Row s v.till (a++b) e→Row s (lastT v a).till b e
 | [],_,_,h=>h
 |x::a,_,_,h=>Row.drop (a:=a) (v:=x.2) h.2.2.2.2
theorem Row.head {l:List (Tk × Tk)} {i:Int} {e:Tk} (h:Row s i l e):Sees s 1 i (headT l e):=by
 cases l with
 |nil=>exact h
 |cons x l=>exact h.1
variable {m:Bool}
theorem operator_no {i ne ar:Int} {u:Tk} (h:Stp u): ∃r:Tk × Int,r.2=0∧operatorP s (Zs i u 1 1 ne ar)= .ok r (Zs i u 1 1 ne ar):=by
 unfold operatorP
 rw [PM.go (peek_old (by decide)),PM.go (get_z _)]
 have h2:hasF 1 1=true:=by decide
 show∃r:Tk × Int,r.2=0∧(if (decide (u.kind≠5) && !nameT u ⟨#[105,110,115,116,97,110,99,101,111,102]⟩ && (!nameT u ⟨#[105,110]⟩|| !hasF 1 1))=true then _ else _:PM (Tk × Int)) _=_
 rw [h2,Bool.not_true,Bool.or_false]
 rcases h.op with h1|h1
 ·rw [if_pos h1]
  exact⟨_,rfl,rfl⟩
 ·split
  ·exact⟨_,rfl,rfl⟩
  ·exact⟨_,h1,rfl⟩
end
end
section
open Go.RowKit
section
variable {s:ByteArray} {p:Nat}
theorem tx_lt {c:UInt8} {l:List UInt8} (hd:s.data.toList.drop p=c::l):p<s.size:=by
 have h:=congrArg List.length hd
 rw [List.length_drop,List.length_cons] at h
 show p<s.data.size
 rw [←Array.length_toList]
 omega
theorem tx_next {c:UInt8} {l:List UInt8} (hd:s.data.toList.drop p=c::l):s.data.toList.drop (p+1)=l:=by
 rw [←List.drop_drop,hd]
 rfl
theorem tx_app {a l:List UInt8} (hd:s.data.toList.drop p=a++l):s.data.toList.drop (p+a.length)=l:=by
 rw [←List.drop_drop,hd,List.drop_left]
theorem tx_fits {a l:List UInt8} (hd:s.data.toList.drop p=a++l) (hp:p≤s.size):p+a.length≤s.size:=by
 have h:=congrArg List.length hd
 rw [List.length_drop,List.length_append] at h
 have h2:s.data.toList.length=s.size:=Array.length_toList
 omega
theorem tx_piece {a l:List UInt8} (hd:s.data.toList.drop p=a++l):s.extract p (p+a.length)=⟨a.toArray⟩:=by
 apply ba_ext
 rw [ByteArray.data_extract,Array.toList_extract,List.extract_eq_take_drop,hd,Nat.add_sub_cancel_left,List.take_left]
def Ink (l:List UInt8):Prop:=isGap l=false∧∀p,0<p→cmKind p l=0
theorem btw_ink {l:List UInt8} {line:Bool} (hd:s.data.toList.drop p=l) (hp:p≤s.size) (h:isGap l=false∧cmKind p l=0):btw s p line= .fine p line []:=by
 rw [btw_step s p line hp,hd,if_neg (by rw [h.1];decide),if_pos h.2]
end
def wordC (c:UInt8):Bool:=decide (c.toNat<128) && partC (c.toNat:Int)
theorem parts_word {l:List UInt8} (hl:goesP false l=false): ∀(a:List UInt8),(∀c ∈ a,wordC c=true)→partsL false (a++l)=a.length
 | [],_=>partsL_no hl
 |c::a,h=>by
  have hc:=h c (.head _)
  unfold wordC at hc
  rw [Bool.and_eq_true,decide_eq_true_eq] at hc
  have hg:goesP false (c::(a++l))=true:=by
   unfold goesP
   rw [nx_ascii _ _ hc.1,hc.2]
   rfl
  rw [List.cons_append,partsL_yes hg,nx_ascii _ _ hc.1]
  show 1+partsL false (a++l)=_
  rw [parts_word hl a (fun c hc=>h c (.tail _ hc)),List.length_cons]
  omega
theorem name_word {c:UInt8} {a l:List UInt8} (hc:c.toNat<128) (hs:startC (c.toNat:Int)=true) (ha: ∀c ∈ a,wordC c=true) (hl:goesP false l=false):nameL false (c::(a++l))=a.length+1:=by
 have hw: ∀x ∈ c::a,wordC x=true:=by
  intro x hx
  rcases List.mem_cons.1 hx with rfl|hx
  ·unfold wordC partC
   rw [decide_eq_true hc,hs]
   rfl
  ·exact ha x hx
 unfold nameL
 rw [nx_ascii _ _ hc,if_pos ⟨show (0:Int)<1 by decide,hs⟩,←List.cons_append,parts_word hl _ hw,List.length_cons]
@[reducible] def low (c:UInt8):Prop:=97≤c.toNat∧c.toNat≤122
theorem pre_no {c d:UInt8} {l w:List UInt8} (h:c≠d):Lib.hasPrefix (c::l) (d::w)=false:=by
 unfold Lib.hasPrefix
 rw [List.isPrefixOf_cons_cons,beq_eq_false_iff_ne.2 (Ne.symm h),Bool.false_and]
theorem plain_word {g:Int} {c:UInt8} {a l:List UInt8} (hlo:low c) (hs:startC (c.toNat:Int)=true) (ha: ∀c ∈ a,wordC c=true) (hl:goesP false l=false) (hl2:0≤(nx l).2):
  plainT g (c::a++l)= .fine 1 (c::a).length:=by
 obtain⟨h1,h2⟩:=hlo
 have hn: ∀d:UInt8,d.toNat<97→c≠d:=by rintro d hd rfl;omega
 have hdig:digAt (c::(a++l))=false:=by
  unfold digAt
  rw [decide_eq_false_iff_not]
  omega
 have hw:=name_word (l:=l) (by omega) hs ha hl
 rw [List.cons_append]
 unfold plainT
 rw [if_neg (by simp),if_neg (by rw [pre_no (hn _ (by decide))];decide),if_neg (by rw [pre_no (hn _ (by decide))];decide),if_neg (by rw [hdig,pre_no (hn 46 (by decide))];simp),if_neg (by rw [pre_no (hn _ (by decide)),pre_no (hn _ (by decide))];simp),if_neg (by rw [pre_no (hn _ (by decide))];simp),hw,if_pos (by omega)]
 unfold aft
 rw [show (c::(a++l)).drop (a.length+1)=l by rw [List.drop_succ_cons,List.drop_left],if_neg (by omega),List.length_cons]
theorem tx_get {f:Nat→Bool} {m:Nat} (h:(List.range m).all f=true) (n:Nat) (hn:n<m):f n=true:=List.all_eq_true.1 h n (List.mem_range.2 hn)
theorem gap_row:(List.range 127).all (fun n=>decide (n<33)|| !(endsR (n:Int)||blankR (n:Int)))=true:=by kernel_rfl
theorem low_row:(List.range 127).all (fun n=>decide (n<97∨122<n)||startC (n:Int))=true:=by kernel_rfl
theorem ink_of {c:UInt8} {l:List UInt8} (h1:33≤c.toNat) (h2:c.toNat<127) (h3:c≠47) (h4:c≠35):Ink (c::l):=by
 refine⟨?_,fun p hp=> ?_⟩
 ·unfold isGap
  rw [nx_ascii _ _ (by omega)]
  show(decide ((0:Int)<1) && (endsR (c.toNat:Int)||blankR (c.toNat:Int)))=false
  have h:=(Bool.or_eq_true _ _).mp (tx_get gap_row c.toNat h2)
  rw [Bool.not_eq_true',decide_eq_true_eq] at h
  rw [h.resolve_left (by omega),Bool.and_false]
 ·unfold cmKind
  rw [if_neg (by rw [pre_no h3];decide),if_neg (by rw [pre_no h3];decide),if_neg (by rw [pre_no h4];simp)]
theorem low_start {c:UInt8} (h:low c):startC (c.toNat:Int)=true:=by
 obtain⟨h1,h2⟩:=h
 have h:=tx_get low_row c.toNat (by omega)
 simp only [Bool.or_eq_true,decide_eq_true_eq] at h
 exact h.resolve_left (by omega)
theorem low_word {c:UInt8} (h:low c):wordC c=true:=by
 unfold wordC partC
 rw [low_start h,Bool.true_or,decide_eq_true (show c.toNat<128 by have:=h.2;omega)]
 rfl
end
section
open Go.RowKit
def markC (c:UInt8):Bool:=decide (c.toNat<128) && !startC (c.toNat:Int) && decide (c≠96∧c≠35∧c≠46∧c≠39∧c≠34∧¬(48≤c.toNat∧c.toNat≤57))
def row2 (x:List UInt8 × List UInt8):ByteArray × ByteArray:=(⟨x.1.toArray⟩,⟨(118::x.2).toArray⟩)
end
section
open Go.RowKit
section
variable {s:ByteArray} {m:Bool} {i g fl ne ar:Int} {u v:Tk} {n:Nd} {p:Ps} {f:Nat}
theorem cond_z (hb:runQ s m f (.binary 1 false) p= .ok n (Zs i u 1 fl ne ar)) (hk:n.kind≠22) (hq:punctT u ⟨#[63]⟩=false):runQ s m (f+1) .cond p= .ok n (Zs i u 1 fl ne ar):=by
 show condS s (runQ s m f) p=_
 unfold condS
 rw [PM.go hb,if_neg hk,PM.go (is_no (peek_old (by decide)) hq),if_neg (by decide)]
 rfl
theorem assigned_z (hk:n.kind≠22) (ha:assigningT u=false):runQ s m (f+1) (.assigned n) (Zs i u 1 fl ne ar)= .ok n (Zs i u 1 fl ne ar):=by
 show assignedS s (runQ s m f) n _=_
 unfold assignedS
 rw [if_neg hk,PM.go (peek_old (by decide)),if_neg (by rw [ha];decide)]
 rfl
theorem deeper_z {α:Type} {x:PM α} {i':Int} {u':Tk} {g' fl' ar' place:Int} {a:α} (h0:0≤ne) (h1:ne<4000) (hx:x (Zs i u g fl (ne+1) ar)= .ok a (Zs i' u' g' fl' (ne+1) ar')):deeperP place x (Zs i u g fl ne ar)= .ok a (Zs i' u' g' fl' ne ar'):=by
 unfold deeperP
 show(if 4000≤ne then _ else _)=_
 rw [if_neg (by omega)]
 show PM.bind x _ (Zs i u g fl (ne+1) ar)=_
 unfold PM.bind
 rw [hx]
 show(if ne+1≤0 then _ else _)=_
 rw [if_neg (by omega)]
 show Res.ok a (Zs _ _ _ _ (ne+1 - 1) _)=_
 rw [Int.add_sub_cancel]
 rfl
theorem expression_z (ha:runQ s m f .assign p= .ok n (Zs i u 1 fl ne ar)) (hc:punctT u ⟨#[44]⟩=false):runQ s m (f+1) .expression p= .ok n (Zs i u 1 fl ne ar):=by
 show expressionS s f (runQ s m f) p=_
 unfold expressionS
 rw [PM.go ha,PM.go (peek_old (by decide)),if_neg (by rw [hc];decide)]
 rfl
end
end
section
open Go.RowKit
section
variable {s:ByteArray} {p:Nat}
def Ink0 (l:List UInt8):Prop:=isGap l=false∧∀p,cmKind p l=0
theorem ink0_of {c:UInt8} {l:List UInt8} (h1:33≤c.toNat) (h2:c.toNat<127) (h3:c≠47) (h4:c≠35):Ink0 (c::l):=by
 refine⟨(ink_of h1 h2 h3 h4).1,fun p=> ?_⟩
 unfold cmKind
 rw [if_neg (by rw [pre_no h3];decide),if_neg (by rw [pre_no h3];decide),if_neg (by rw [pre_no h4];simp)]
end
theorem plain_markg {g:Int} {c:UInt8} {l:List UInt8} {n:Nat} (hc:markC c=true) (h47:c≠47) (hp:pct g (c::l)=n) (hn:n≠0):plainT g (c::l)= .fine 5 n:=by
 unfold markC at hc
 rw [Bool.and_eq_true,Bool.and_eq_true,decide_eq_true_eq,decide_eq_true_eq,Bool.not_eq_true'] at hc
 obtain⟨⟨h1,h2⟩,h3,h4,h5,h6,h7,h8⟩:=hc
 have hdig:digAt (c::l)=false:=by
  unfold digAt
  rw [decide_eq_false_iff_not]
  exact h8
 have hname:nameL false (c::l)=0:=by
  unfold nameL
  rw [nx_ascii _ _ h1,if_neg]
  rintro⟨_,h⟩
  simp only at h
  rw [h2] at h
  cases h
 unfold plainT
 rw [if_neg (by simp),if_neg (by rw [pre_no h3];decide),if_neg (by rw [pre_no h4];decide),if_neg (by rw [hdig,pre_no h5];simp),if_neg (by rw [pre_no h6,pre_no h7];simp),if_neg (by rintro⟨_,h⟩;rw [pre_no h47] at h;cases h),if_neg (by rw [hname];simp),hp,if_pos hn]
theorem pct_no {g:Int} {c:UInt8} {l:List UInt8} (h:c≠47):pct g (c::l)=match pctRow.find? (pctIs (c::l)) with|some w=>w.length|none=>0:=by
 unfold pct
 rw [if_neg (by rintro⟨_,h1⟩;rw [pre_no h] at h1;cases h1),if_neg (by rintro⟨_,h1⟩;rw [pre_no h] at h1;cases h1)]
 rfl
end
end Go.Proofs.YtnahajcjpmbflaaGreatDoor
