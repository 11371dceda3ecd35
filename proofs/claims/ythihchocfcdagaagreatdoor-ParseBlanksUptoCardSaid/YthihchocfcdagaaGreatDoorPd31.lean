/- Parts: Plain: how package parse's reading goes over tokens that have no comments ahead: states, looking, taking. No condition. | Plain: names with operators between are read as the tree that is cut at the loosest one. No condition. | Plain: the tokens of a text of names, marks and blanks, as the parser sees them. No condition. | Plain: a text of names with operators between, as the parser sees its tokens. No condition. | Plain: tokens that stand at a place, behind a blank or not. No condition. -/
import Derived.Test.YthihchocfcdagaaGreatDoorPd09
namespace Go.Proofs.YthihchocfcdagaaGreatDoor
section
open Go.RowKit
def Sees (s:ByteArray) (g:Int) (i:Int) (t:Tk):Prop:=0≤i∧i≤(s.size:Int)∧∃q n,nxt s i.toNat g= .fine t.kind q n t.line []∧tkOf s t.kind q n t.line=t
def slashT (t:Tk):Bool:=Lib.hasPrefix t.text.data.toList [47]
theorem PM.go {α β:Type} {x:PM α} {f:α→PM β} {p q:Ps} {a:α} (h:x p= .ok a q):(x>>=f) p=f a q:=by
 show PM.bind x f p=_
 unfold PM.bind
 rw [h]
theorem PM.fell {α β:Type} {x:PM α} {f:α→PM β} {p:Ps} {c i:Int} (h:x p= .bad c i):(x>>=f) p= .bad c i:=by
 show PM.bind x f p=_
 unfold PM.bind
 rw [h]
structure Nm (t:Tk):Prop where
 kind:t.kind=1
 res:oneOf t.text resW=false
 aw:t.text≠⟨#[97,119,97,105,116]⟩
 asy:t.text≠⟨#[97,115,121,110,99]⟩
 sl:slashT t=false
theorem oneOf_ne {t:ByteArray} {l:List ByteArray} (h:oneOf t l=false) {x:ByteArray} (hx:oneOf x l=true):t≠x:=by
 rintro rfl
 rw [h] at hx
 cases hx
theorem Nm.ne {t:Tk} (h:Nm t) {x:ByteArray} (hx:oneOf x resW=true):t.text≠x:=oneOf_ne h.res hx
theorem Nm.nameT {t:Tk} (h:Nm t) {x:ByteArray} (hx:oneOf x resW=true):nameT t x=false:=by
 unfold Go.Proofs.YthihchocfcdagaaGreatDoor.nameT
 rw [decide_eq_false (h.ne hx),Bool.and_false]
theorem Nm.punctT {t:Tk} (h:Nm t) (x:ByteArray):punctT t x=false:=by
 unfold Go.Proofs.YthihchocfcdagaaGreatDoor.punctT
 rw [h.kind]
 rfl
theorem Nm.ident {t:Tk} (h:Nm t) (m:Bool) (fl:Int):identB m fl t=true:=by
 unfold identB reservedB
 rw [if_neg h.aw,h.res,h.kind,decide_eq_true h.aw]
 simp
theorem nameT_ne {t:Tk} {x:ByteArray} (h:t.text≠x):nameT t x=false:=by
 unfold nameT
 rw [decide_eq_false h,Bool.and_false]
structure Endy (u:Tk):Prop where
 dot:punctT u ⟨#[46]⟩=false
 brk:punctT u ⟨#[91]⟩=false
 par:punctT u ⟨#[40]⟩=false
 opt:punctT u ⟨#[63,46]⟩=false
 k7:u.kind≠7
 k8:u.kind≠8
 inc:punctT u ⟨#[43,43]⟩=false
 dec:punctT u ⟨#[45,45]⟩=false
end
section
open Go.RowKit
structure Opr (o:Tk):Prop where
 op:(decide (o.kind≠5) && !nameT o ⟨#[105,110,115,116,97,110,99,101,111,102]⟩ && !nameT o ⟨#[105,110]⟩)=false
 lo:2≤levelB o.text
 hi:levelB o.text≤12
 star:levelB o.text=12↔o.text=⟨#[42,42]⟩
 e:Endy o
section
variable {s:ByteArray}
def Row (s:ByteArray):Int→List (Tk × Tk)→Tk→Prop
 |i,[],e=>Sees s 1 i e
 |i,x::l,e=>Sees s 1 i x.1∧Opr x.1∧Sees s 2 x.1.till x.2∧Nm x.2∧Row s x.2.till l e
def lastT:Tk→List (Tk × Tk)→Tk
 |v,[]=>v
 |_,x::l=>lastT x.2 l
def headT:List (Tk × Tk)→Tk→Tk
 | [],e=>e
 |x::_,_=>x.1
theorem Row.drop {e:Tk} : ∀ {a b:List (Tk × Tk)} {v:Tk},Row s v.till (a++b) e→Row s (lastT v a).till b e
 | [],_,_,h=>h
 |x::a,_,_,h=>Row.drop (a:=a) (v:=x.2) h.2.2.2.2
theorem Row.head {l:List (Tk × Tk)} {i:Int} {e:Tk} (h:Row s i l e):Sees s 1 i (headT l e):=by
 cases l with
 |nil=>exact h
 |cons x l=>exact h.1
variable {m:Bool}
end
end
section
open Go.RowKit
section
variable {s:ByteArray} {p:Nat}
theorem tx_lt {c:UInt8} {l:List UInt8} (hd:s.data.toList.drop p=c::l):p<s.size:=by
 have h:=congrArg List.length hd
 rw [List.length_drop,List.length_cons] at h
 show p<s.data.size
 rw [←Array.length_toList]
 omega
theorem tx_app {a l:List UInt8} (hd:s.data.toList.drop p=a++l):s.data.toList.drop (p+a.length)=l:=by
 rw [←List.drop_drop,hd,List.drop_left]
theorem tx_fits {a l:List UInt8} (hd:s.data.toList.drop p=a++l) (hp:p≤s.size):p+a.length≤s.size:=by
 have h:=congrArg List.length hd
 rw [List.length_drop,List.length_append] at h
 have h2:s.data.toList.length=s.size:=Array.length_toList
 omega
theorem tx_piece {a l:List UInt8} (hd:s.data.toList.drop p=a++l):s.extract p (p+a.length)=⟨a.toArray⟩:=by
 apply ba_ext
 rw [ByteArray.data_extract,Array.toList_extract,List.extract_eq_take_drop,hd,Nat.add_sub_cancel_left,List.take_left]
def Ink (l:List UInt8):Prop:=isGap l=false∧∀p,0<p→cmKind p l=0
theorem btw_ink {l:List UInt8} {line:Bool} (hd:s.data.toList.drop p=l) (hp:p≤s.size) (h:isGap l=false∧cmKind p l=0):btw s p line= .fine p line []:=by
 rw [btw_step s p line hp,hd,if_neg (by rw [h.1];decide),if_pos h.2]
theorem nxt_12 {g:Int} (hg:g=1∨g=2) {q:Nat} {line:Bool} {kind:Int} {n:Nat} (hb:btw s p false= .fine q line []) (ht:plainT g (s.data.toList.drop q)= .fine kind n):nxt s p g= .fine kind q n line []:=by
 unfold nxt tokT
 rcases hg with rfl|rfl<;>
 ·rw [if_neg (by rintro(h|h|⟨h,_⟩)<;>omega),if_neg (by decide),hb]
  simp only
  rw [if_neg (by decide),if_neg (by decide),if_neg (by decide),ht]
def endT (p:Nat):Tk:=⟨0,⟨#[]⟩,p,p,false⟩
theorem sees_end {g:Int} (hg:g=1∨g=2) (hd:s.data.toList.drop p= []) (hp:p≤s.size):Sees s g p (endT p):=by
 refine⟨by omega,by omega,p,0,?_,?_⟩
 ·rw [Int.toNat_natCast]
  refine nxt_12 hg (btw_ink hd hp ⟨rfl,?_⟩) ?_
  ·unfold cmKind
   rw [if_neg (by decide),if_neg (by decide),if_neg (by simp [Lib.hasPrefix])]
  ·rw [hd]
   rfl
 ·unfold tkOf endT
  have:s.extract p (p+0)=⟨#[]⟩:=tx_piece (a:= []) (l:= []) hd
  rw [this]
  simp
end
def wordC (c:UInt8):Bool:=decide (c.toNat<128) && partC (c.toNat:Int)
theorem parts_word {l:List UInt8} (hl:goesP false l=false): ∀(a:List UInt8),(∀c ∈ a,wordC c=true)→partsL false (a++l)=a.length
 | [],_=>partsL_no hl
 |c::a,h=>by
  have hc:=h c (.head _)
  unfold wordC at hc
  rw [Bool.and_eq_true,decide_eq_true_eq] at hc
  have hg:goesP false (c::(a++l))=true:=by
   unfold goesP
   rw [nx_ascii _ _ hc.1,hc.2]
   rfl
  rw [List.cons_append,partsL_yes hg,nx_ascii _ _ hc.1]
  show 1+partsL false (a++l)=_
  rw [parts_word hl a (fun c hc=>h c (.tail _ hc)),List.length_cons]
  omega
theorem name_word {c:UInt8} {a l:List UInt8} (hc:c.toNat<128) (hs:startC (c.toNat:Int)=true) (ha: ∀c ∈ a,wordC c=true) (hl:goesP false l=false):nameL false (c::(a++l))=a.length+1:=by
 have hw: ∀x ∈ c::a,wordC x=true:=by
  intro x hx
  rcases List.mem_cons.1 hx with rfl|hx
  ·unfold wordC partC
   rw [decide_eq_true hc,hs]
   rfl
  ·exact ha x hx
 unfold nameL
 rw [nx_ascii _ _ hc,if_pos ⟨show (0:Int)<1 by decide,hs⟩,←List.cons_append,parts_word hl _ hw,List.length_cons]
@[reducible] def low (c:UInt8):Prop:=97≤c.toNat∧c.toNat≤122
theorem pre_no {c d:UInt8} {l w:List UInt8} (h:c≠d):Lib.hasPrefix (c::l) (d::w)=false:=by
 unfold Lib.hasPrefix
 rw [List.isPrefixOf_cons_cons,beq_eq_false_iff_ne.2 (Ne.symm h),Bool.false_and]
theorem plain_word {g:Int} {c:UInt8} {a l:List UInt8} (hlo:low c) (hs:startC (c.toNat:Int)=true) (ha: ∀c ∈ a,wordC c=true) (hl:goesP false l=false) (hl2:0≤(nx l).2):
  plainT g (c::a++l)= .fine 1 (c::a).length:=by
 obtain⟨h1,h2⟩:=hlo
 have hn: ∀d:UInt8,d.toNat<97→c≠d:=by rintro d hd rfl;omega
 have hdig:digAt (c::(a++l))=false:=by
  unfold digAt
  rw [decide_eq_false_iff_not]
  omega
 have hw:=name_word (l:=l) (by omega) hs ha hl
 rw [List.cons_append]
 unfold plainT
 rw [if_neg (by simp),if_neg (by rw [pre_no (hn _ (by decide))];decide),if_neg (by rw [pre_no (hn _ (by decide))];decide),if_neg (by rw [hdig,pre_no (hn 46 (by decide))];simp),if_neg (by rw [pre_no (hn _ (by decide)),pre_no (hn _ (by decide))];simp),if_neg (by rw [pre_no (hn _ (by decide))];simp),hw,if_pos (by omega)]
 unfold aft
 rw [show (c::(a++l)).drop (a.length+1)=l by rw [List.drop_succ_cons,List.drop_left],if_neg (by omega),List.length_cons]
theorem tx_get {f:Nat→Bool} {m:Nat} (h:(List.range m).all f=true) (n:Nat) (hn:n<m):f n=true:=List.all_eq_true.1 h n (List.mem_range.2 hn)
theorem gap_row:(List.range 127).all (fun n=>decide (n<33)|| !(endsR (n:Int)||blankR (n:Int)))=true:=by kernel_rfl
theorem low_row:(List.range 127).all (fun n=>decide (n<97∨122<n)||startC (n:Int))=true:=by kernel_rfl
theorem ink_of {c:UInt8} {l:List UInt8} (h1:33≤c.toNat) (h2:c.toNat<127) (h3:c≠47) (h4:c≠35):Ink (c::l):=by
 refine⟨?_,fun p hp=> ?_⟩
 ·unfold isGap
  rw [nx_ascii _ _ (by omega)]
  show(decide ((0:Int)<1) && (endsR (c.toNat:Int)||blankR (c.toNat:Int)))=false
  have h:=(Bool.or_eq_true _ _).mp (tx_get gap_row c.toNat h2)
  rw [Bool.not_eq_true',decide_eq_true_eq] at h
  rw [h.resolve_left (by omega),Bool.and_false]
 ·unfold cmKind
  rw [if_neg (by rw [pre_no h3];decide),if_neg (by rw [pre_no h3];decide),if_neg (by rw [pre_no h4];simp)]
theorem low_start {c:UInt8} (h:low c):startC (c.toNat:Int)=true:=by
 obtain⟨h1,h2⟩:=h
 have h:=tx_get low_row c.toNat (by omega)
 simp only [Bool.or_eq_true,decide_eq_true_eq] at h
 exact h.resolve_left (by omega)
theorem part_32:partC (((32:UInt8).toNat:Nat):Int)=false:=by kernel_rfl
theorem goes_32 (l:List UInt8):goesP false (32::l)=false:=by
 unfold goesP
 rw [nx_ascii _ _ (by decide)]
 simp only [part_32,Bool.false_and,Bool.or_false,Bool.and_false]
theorem nx_32 (l:List UInt8):0≤(nx (32::l)).2:=by
 rw [nx_ascii _ _ (by decide)]
 decide
end
section
open Go.RowKit
def markC (c:UInt8):Bool:=decide (c.toNat<128) && !startC (c.toNat:Int) && decide (c≠96∧c≠35∧c≠46∧c≠39∧c≠34∧¬(48≤c.toNat∧c.toNat≤57))
def row2 (x:List UInt8 × List UInt8):ByteArray × ByteArray:=(⟨x.1.toArray⟩,⟨(118::x.2).toArray⟩)
end
section
open Go.RowKit
section
variable {s:ByteArray} {p:Nat}
def Ink0 (l:List UInt8):Prop:=isGap l=false∧∀p,cmKind p l=0
theorem ink0_of {c:UInt8} {l:List UInt8} (h1:33≤c.toNat) (h2:c.toNat<127) (h3:c≠47) (h4:c≠35):Ink0 (c::l):=by
 refine⟨(ink_of h1 h2 h3 h4).1,fun p=> ?_⟩
 unfold cmKind
 rw [if_neg (by rw [pre_no h3];decide),if_neg (by rw [pre_no h3];decide),if_neg (by rw [pre_no h4];simp)]
end
theorem plain_markg {g:Int} {c:UInt8} {l:List UInt8} {n:Nat} (hc:markC c=true) (h47:c≠47) (hp:pct g (c::l)=n) (hn:n≠0):plainT g (c::l)= .fine 5 n:=by
 unfold markC at hc
 rw [Bool.and_eq_true,Bool.and_eq_true,decide_eq_true_eq,decide_eq_true_eq,Bool.not_eq_true'] at hc
 obtain⟨⟨h1,h2⟩,h3,h4,h5,h6,h7,h8⟩:=hc
 have hdig:digAt (c::l)=false:=by
  unfold digAt
  rw [decide_eq_false_iff_not]
  exact h8
 have hname:nameL false (c::l)=0:=by
  unfold nameL
  rw [nx_ascii _ _ h1,if_neg]
  rintro⟨_,h⟩
  simp only at h
  rw [h2] at h
  cases h
 unfold plainT
 rw [if_neg (by simp),if_neg (by rw [pre_no h3];decide),if_neg (by rw [pre_no h4];decide),if_neg (by rw [hdig,pre_no h5];simp),if_neg (by rw [pre_no h6,pre_no h7];simp),if_neg (by rintro⟨_,h⟩;rw [pre_no h47] at h;cases h),if_neg (by rw [hname];simp),hp,if_pos hn]
theorem pct_no {g:Int} {c:UInt8} {l:List UInt8} (h:c≠47):pct g (c::l)=match pctRow.find? (pctIs (c::l)) with|some w=>w.length|none=>0:=by
 unfold pct
 rw [if_neg (by rintro⟨_,h1⟩;rw [pre_no h] at h1;cases h1),if_neg (by rintro⟨_,h1⟩;rw [pre_no h] at h1;cases h1)]
 rfl
end
end Go.Proofs.YthihchocfcdagaaGreatDoor
