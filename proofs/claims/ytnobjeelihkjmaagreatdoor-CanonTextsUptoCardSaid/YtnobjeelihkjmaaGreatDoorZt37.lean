/- Steps (CvN Stp). Conditions: as stated. -/
import Derived.Test.YtnobjeelihkjmaaGreatDoorZt03
import Derived.Test.YtnobjeelihkjmaaGreatDoorZt05
namespace Go.Proofs.YtnobjeelihkjmaaGreatDoor
section
open Go.RowKit
def ax6 (R:List UInt8):Prop:=R= []∨∃c r,R=c::r∧(c=32∨c=41∨c=44∨c=93∨c=59∨c=125∨c=58)
theorem ax6.of {c:UInt8} (r:List UInt8) (h:c=32∨c=41∨c=44∨c=93∨c=59∨c=125∨c=58):ax6 (c::r):= .inr ⟨c,r,rfl,h⟩
def DigL (d:List UInt8):Prop:= ∀c ∈ d,48≤c.toNat∧c.toNat≤57
theorem bN2 {c:UInt8} (h:48≤c.toNat∧c.toNat≤57):isD 0 c=true:=by
 unfold isD
 by_cases h1:48≤c.toNat∧c.toNat≤49
 ·rw [if_pos h1]
 ·rw [if_neg h1]
  by_cases h2:50≤c.toNat∧c.toNat≤55
  ·rw [if_pos h2];decide
  ·rw [if_neg h2,if_pos (by omega)];decide
theorem bz6 {b:Nat} {R:List UInt8} (p:Bool) (hb:b=0∨b=120) (h:ax6 R∨∃r,R=46::r):runN b p R=0:=by
 have key: ∀(c:UInt8) (r:List UInt8),c=32∨c=41∨c=44∨c=93∨c=59∨c=125∨c=58∨c=46→runN b p (c::r)=0:=by
  intro c r hc
  have h1:isD b c=false:=by rcases hb with rfl|rfl<;>rcases hc with rfl|rfl|rfl|rfl|rfl|rfl|rfl|rfl<;>kernel_rfl
  have h2:c≠95:=by rcases hc with rfl|rfl|rfl|rfl|rfl|rfl|rfl|rfl<;>decide
  rw [runN,if_neg (by rw [h1];decide),if_neg (fun h=>h2 h.1)]
 rcases h with (rfl|⟨c,r,rfl,hc⟩)|⟨r,rfl⟩
 ·rfl
 ·exact key c r (by rcases hc with h|h|h|h|h|h|h<;>simp [h])
 ·exact key 46 r (by simp)
theorem aF5 {b:Nat} {R:List UInt8} (hb:b=0∨b=120) (h:ax6 R∨∃r,R=46::r): ∀(d:List UInt8) (p:Bool),(∀c ∈ d,isD b c=true)→runN b p (d++R)=d.length
 | [],p,_=>bz6 p hb h
 |c::d,p,hd=>by
  rw [List.cons_append,runN,if_pos (hd c (.head _)),aF5 hb h d true (fun x hx=>hd x (.tail _ hx)),List.length_cons]
structure DecL (w:List UInt8) (pt:Bool) (f:List UInt8):Prop where
 ne:w≠ []
 dig:DigL w
 hd:w= [48]∨w.head?≠some 48
 fdig:DigL f
 nopt:pt=false→f= []
def decX (w:List UInt8) (pt:Bool) (f:List UInt8):List UInt8:=w++(if pt then 46::f else [])
theorem ofl5 (l:List UInt8):(⟨l.toArray⟩:ByteArray).size=l.length:=by
 show l.toArray.size=_
 simp
theorem aR8 {s:ByteArray} {i:Nat} (h:i<s.size) {c:UInt8} (hc:s.data.toList[i]? =some c):s[i]=c:=by
 have h2:i<s.data.size:=h
 have:s.data[i]'h2=c:=by
  rw [Array.getElem?_toList] at hc
  rw [Array.getElem?_eq_getElem h2] at hc
  exact Option.some.inj hc
 exact this
theorem cb9 {c:UInt8} {l:List UInt8} (h:c≠48∨∀x r,l=x::r→x=46∨x=32∨x=41∨x=44∨x=93∨x=59∨x=125∨x=58):am7 ⟨(c::l).toArray⟩=false:=by
 unfold am7
 split
 ·rename_i h2
  have e0:(⟨(c::l).toArray⟩:ByteArray)[0]=c:=aR8 (by omega) (by simp)
  rcases h with h|h
  ·rw [e0,beq_eq_false_iff_ne.2 h]
   rfl
  ·cases l with
   |nil=>rw [ofl5] at h2;simp at h2
   |cons x r=>
    have e1:(⟨(c::x::r).toArray⟩:ByteArray)[1]=x:=aR8 (by omega) (by simp)
    rw [e1]
    rcases h x r rfl with rfl|rfl|rfl|rfl|rfl|rfl|rfl|rfl<;>simp
 ·rfl
theorem aB3 (s:ByteArray) (k:Nat) (a b:List UInt8) (h:s.data.toList=a++b) (hk:a.length=k):s.extract k s.size=⟨b.toArray⟩:=by
 have e:(s.extract k s.size).data.toList=b:=by rw [af8,h,←hk,List.drop_left]
 cases hs:s.extract k s.size with
 |mk d=>
  rw [hs] at e
  simp only at e
  rw [←e]
theorem bB2 (a b:List UInt8):(⟨(a++b).toArray⟩:ByteArray).extract 0 a.length=⟨a.toArray⟩:=by
 have e2:((⟨(a++b).toArray⟩:ByteArray).extract 0 a.length).data.toList=a:=by
  simp [ByteArray.data_extract,List.extract]
 cases hs:(⟨(a++b).toArray⟩:ByteArray).extract 0 a.length with
 |mk d=>
  rw [hs] at e2
  simp only at e2
  rw [←e2]
theorem bj0 {w f R:List UInt8} {pt:Bool} (h:DecL w pt f) (hR:ax6 R):ak9 ⟨(decX w pt f++R).toArray⟩=(ag3 ⟨w.toArray⟩ pt ⟨f.toArray⟩,⟨R.toArray⟩,true):=by
 obtain⟨h0,hdg,hh,hf,hp⟩:=h
 obtain⟨T,hT⟩: ∃T,(if pt then 46::f else [])++R=T:=⟨_,rfl⟩
 have hX:decX w pt f++R=w++T:=by unfold decX;rw [List.append_assoc,hT]
 have hTs:ax6 T∨∃r,T=46::r:=by
  cases pt with
  |true=>exact .inr ⟨f++R,by rw [←hT];rfl⟩
  |false=>exact .inl (by rw [←hT];exact hR)
 have ho:am7 ⟨(w++T).toArray⟩=false:=by
  cases w with
  |nil=>exact absurd rfl h0
  |cons c w=>
   refine cb9 ?_
   rcases hh with hh|hh
   ·injection hh with e1 e2
    subst e2
    refine .inr fun x r hx=> ?_
    rcases hTs with (e|⟨y,r',e,hy⟩)|⟨r',e⟩
    ·rw [e] at hx;cases hx
    ·rw [e] at hx;injection hx with h1 h2;subst h1;exact .inr hy
    ·rw [e] at hx;injection hx with h1 h2;exact .inl h1.symm
   ·exact .inl (by rintro rfl;exact hh rfl)
 have hw:ac0 ⟨(w++T).toArray⟩=(⟨w.toArray⟩,⟨T.toArray⟩):=by
  unfold ac0
  rcases hh with rfl|hh
  ·rw [if_pos (by rfl),aB3 _ 1 [48] T rfl rfl]
  ·rw [if_neg]
   ·unfold runB
    rw [show (⟨(w++T).toArray⟩:ByteArray).data.toList=w++T by simp,aF5 (.inl rfl) hTs w false (fun c hc=>bN2 (hdg c hc)),bB2,aB3 _ _ w T (by simp) rfl]
   ·cases w with
    |nil=>exact absurd rfl h0
    |cons c w=>
     show¬Lib.hasPrefix (c::(w++T)) [48]=true
     rw [show Lib.hasPrefix (c::(w++T)) [48]=false by
      show((48:UInt8)==c && true)=false
      rw [Bool.and_true,beq_eq_false_iff_ne]
      rintro rfl
      exact hh rfl]
     decide
 have hpt:ah5 ⟨T.toArray⟩=(pt,⟨f.toArray⟩,⟨R.toArray⟩):=by
  unfold ah5
  cases pt with
  |true=>
   subst hT
   rw [if_pos (by rfl)]
   unfold runB
   rw [aB3 _ 1 [46] (f++R) rfl rfl,show(⟨(f++R).toArray⟩:ByteArray).data.toList=f++R by simp,aF5 (.inl rfl) (.inl hR) f false (fun c hc=>bN2 (hf c hc)),aB3 _ _ f R (by simp) rfl]
   rw [bB2]
  |false=>
   have hf0:=hp rfl
   subst hf0 hT
   have h46:Lib.hasPrefix (⟨(([]:List UInt8)++R).toArray⟩:ByteArray).data.toList [46]=false:=by
    rcases hR with rfl|⟨c,r,rfl,hc⟩
    ·rfl
    ·show((46:UInt8)==c && true)=false
     rw [Bool.and_true,beq_eq_false_iff_ne]
     rintro rfl
     revert hc
     decide
   exact if_neg (by show¬Lib.hasPrefix (⟨(([]:List UInt8)++R).toArray⟩:ByteArray).data.toList [46]=true;rw [h46];decide)
 have hec: ∀x:Lit,expL x ⟨R.toArray⟩=(x,⟨R.toArray⟩):=by
  intro x
  unfold expL expO
  rcases hR with rfl|⟨c,r,rfl,hc⟩
  ·rfl
  ·rw [dif_pos (by rw [ofl5];simp),show(⟨(c::r).toArray⟩:ByteArray)[0]'(by rw [ofl5];simp)=c from aR8 (by rw [ofl5];simp) (by simp),if_neg (by rcases hc with rfl|rfl|rfl|rfl|rfl|rfl|rfl<;>decide)]
 have hbg: ∀x:Lit,bigL x ⟨R.toArray⟩=(x,⟨R.toArray⟩):=by
  intro x
  unfold bigL
  rw [if_neg]
  have:Lib.hasPrefix (⟨R.toArray⟩:ByteArray).data.toList [110]=false:=by
   rcases hR with rfl|⟨c,r,rfl,hc⟩
   ·rfl
   ·show((110:UInt8)==c && true)=false
    rw [Bool.and_true,beq_eq_false_iff_ne]
    rintro rfl
    revert hc
    decide
  rw [this]
  simp
 rw [hX]
 unfold ak9
 rw [if_neg (by rw [ho];decide)]
 unfold aB8
 simp only
 rw [hw]
 simp only
 rw [hpt,if_neg (by rw [ofl5];have:w.length≠0:=fun e=>h0 (List.length_eq_zero_iff.1 e);simp [this])]
 simp only
 rw [hec,hbg]
theorem bv2 {w f R:List UInt8} {pt:Bool} (h:DecL w pt f) (hR:ax6 R):al3 (decX w pt f++R)=(decX w pt f).length:=by
 unfold al3 aK9
 rw [bj0 h hR]
 simp only [if_true]
 rw [ofl5,ofl5,List.length_append]
 omega
theorem bv3 {x:UInt8} {h R:List UInt8} (hx:x=120∨x=88) (h0:h≠ []) (hd: ∀c ∈ h,isD 120 c=true) (hR:ax6 R):al3 (48::x::(h++R))=2+h.length:=by
 have hz:(⟨(48::x::(h++R)).toArray⟩:ByteArray).size=2+h.length+R.length:=by rw [ofl5];simp;omega
 have hl:0<h.length:=by
  rcases Nat.eq_zero_or_pos h.length with e|e
  ·exact absurd (List.length_eq_zero_iff.1 e) h0
  ·exact e
 have ho:am7 ⟨(48::x::(h++R)).toArray⟩=true:=by
  unfold am7
  rw [dif_pos (by rw [hz];omega)]
  have e0:(⟨(48::x::(h++R)).toArray⟩:ByteArray)[0]'(by rw [hz];omega)=48:=aR8 (by rw [hz];omega) (by simp)
  have e1:(⟨(48::x::(h++R)).toArray⟩:ByteArray)[1]'(by rw [hz];omega)=x:=aR8 (by rw [hz];omega) (by simp)
  rw [e0,e1]
  rcases hx with rfl|rfl<;>decide
 have hsc:(ak9 ⟨(48::x::(h++R)).toArray⟩).2=(⟨R.toArray⟩,true):=by
  unfold ak9
  rw [if_pos ho]
  unfold aB9
  have e1:((⟨(48::x::(h++R)).toArray⟩:ByteArray).data.toList[1]!.toNat|||32)=120:=by
   show(x.toNat|||32)=120
   rcases hx with rfl|rfl<;>rfl
  have e2:(⟨(48::x::(h++R)).toArray⟩:ByteArray).extract 2 (⟨(48::x::(h++R)).toArray⟩:ByteArray).size=⟨(h++R).toArray⟩:=aB3 _ 2 [48,x] (h++R) rfl rfl
  have hr:runN 120 false (h++R)=h.length:=aF5 (.inr rfl) (.inl hR) h false hd
  have e3:(runB 120 ⟨(h++R).toArray⟩).2=⟨R.toArray⟩:=by
   unfold runB
   rw [show (⟨(h++R).toArray⟩:ByteArray).data.toList=h++R by simp,hr]
   exact aB3 _ _ h R (by simp) rfl
  have e4:(runB 120 ⟨(h++R).toArray⟩).1.size=h.length:=by
   unfold runB
   rw [show (⟨(h++R).toArray⟩:ByteArray).data.toList=h++R by simp,hr,ByteArray.size_extract,ofl5,List.length_append]
   omega
  simp only
  rw [e1,e2,e3,e4,decide_eq_true hl]
  have e5:Lib.trimPrefix (⟨R.toArray⟩:ByteArray).data.toList [110]=R:=by
   rcases hR with rfl|⟨c,r,rfl,hc⟩
   ·rfl
   ·unfold Lib.trimPrefix
    have:Lib.hasPrefix (c::r) [110]=false:=by
     show((110:UInt8)==c && true)=false
     rw [Bool.and_true,beq_eq_false_iff_ne]
     rintro rfl
     revert hc
     decide
    simp [this]
  rw [e5]
 unfold al3 aK9
 rw [hsc]
 simp only [if_true]
 rw [hz,ofl5]
 omega
theorem bo3 {R:List UInt8} (h:ax6 R): ¬(0<(nx R).2∧(ad5 (nx R).1=true∨ak0 R=true)):=by
 rcases h with rfl|⟨c,r,rfl,hc⟩
 ·rw [bN4]
  rintro⟨h,_⟩
  exact absurd h (by decide)
 ·rw [af4 _ _ (by rcases hc with rfl|rfl|rfl|rfl|rfl|rfl|rfl<;>decide)]
  rintro⟨_,h|h⟩
  ·rcases hc with rfl|rfl|rfl|rfl|rfl|rfl|rfl
   ·rw [show ad5 ((32:UInt8).toNat:Int)=false by kernel_rfl] at h;cases h
   ·rw [show ad5 ((41:UInt8).toNat:Int)=false by kernel_rfl] at h;cases h
   ·rw [show ad5 ((44:UInt8).toNat:Int)=false by kernel_rfl] at h;cases h
   ·rw [show ad5 ((93:UInt8).toNat:Int)=false by kernel_rfl] at h;cases h
   ·rw [show ad5 ((59:UInt8).toNat:Int)=false by kernel_rfl] at h;cases h
   ·rw [show ad5 ((125:UInt8).toNat:Int)=false by kernel_rfl] at h;cases h
   ·rw [show ad5 ((58:UInt8).toNat:Int)=false by kernel_rfl] at h;cases h
  ·rcases hc with rfl|rfl|rfl|rfl|rfl|rfl|rfl<;>cases h
theorem aN3 {g:Int} {c:UInt8} {d R:List UInt8} (hc:48≤c.toNat∧c.toNat≤57) (hl:al3 ((c::d)++R)=(c::d).length) (hR:ax6 R):al6 g ((c::d)++R)= .fine 3 (c::d).length:=by
 have hn:numL ((c::d)++R)=(c::d).length:=by
  unfold numL
  rw [hl,List.drop_left,if_neg (bo3 hR)]
 have ht:numT ((c::d)++R)= .fine 3 (c::d).length:=by
  unfold numT aft
  rw [hn,if_neg (by simp),List.drop_left,if_neg]
  rcases hR with rfl|⟨y,r,rfl,hy⟩
  ·rw [bN4]
   decide
  ·rw [af4 _ _ (by rcases hy with rfl|rfl|rfl|rfl|rfl|rfl|rfl<;>decide)]
   exact(show¬((1:Int)<0) by decide)
 have hne: ∀x:UInt8,¬(48≤x.toNat∧x.toNat≤57)→Lib.hasPrefix ((c::d)++R) [x]=false:=by
  intro x hx
  show(x==c && true)=false
  rw [Bool.and_true,beq_eq_false_iff_ne]
  rintro rfl
  exact hx hc
 rw [←ht]
 unfold al6
 rw [if_neg (by simp),if_neg (by rw [hne _ (by decide)];decide),if_neg (by rw [hne _ (by decide)];decide),if_pos (.inl (by show decide (48≤c.toNat∧c.toNat≤57)=true;exact decide_eq_true hc))]
end
section
open Go.RowKit
theorem NdW.low {w:World} {L L' B:Nat} {n:Nd} {v:Value} (h:NdW w L B n v) (hL:L'≤L):NdW w L' B n v:=by
 obtain⟨b,cap,h1,h2⟩:=h
 exact⟨b,cap,h1,RowE.keeps.k hL (Nat.le_refl _) (fun _ _ _=>rfl) h2⟩
theorem NdV.low {w:World} {L L' B B':Nat} {n:Nd} {v:Value} (h:NdV w L B n v) (hL:L'≤L) (hB:B≤B'):NdV w L' B' n v:=by
 obtain⟨b,cap,h1,h2,h3⟩:=h
 exact⟨b,cap,h1,h2,ap0 hL hB (fun _ _ _=>rfl) h3⟩
def StrS (g:Nat) (l:List (List UInt8)) (W:World):Prop:=g<W.heap.size∧∀a,(h:a<l.length)→W.cell? ⟨g,a,none⟩=some (.string ⟨l[a].toArray⟩)
theorem StrS.new (w:World) (l:List (List UInt8)) (T:TypeId):StrS w.heap.size l (w.alloc (.cells (l.map fun o=>Value.string ⟨o.toArray⟩).toArray T)):=by
 refine⟨by rw [World.size_alloc];exact Nat.lt_succ_self _,fun a h=> ?_⟩
 rw [cell_of_row _ _ _ _ T (0,0) (heap_alloc_new _ _),List.getElem?_toArray,List.getElem?_map,List.getElem?_eq_getElem h]
 rfl
theorem StrS.bel {g:Nat} {l:List (List UInt8)} {w w':World} (h:StrS g l w) (hb:Below w.heap.size w w'):StrS g l w':=
 ⟨Nat.lt_of_lt_of_le h.1 hb.size,fun a ha=>(World.cell?_of_block (hb.block g h.1)).trans (h.2 a ha)⟩
theorem bq1 {S:ByteArray} {l:List UInt8} (h:S.data.toList=l):S.size=l.length:=by
 rw [←h]
 exact Array.length_toList.symm
theorem aO5 {n:Nd} (h:aa0 n≤8000):au8 n=ab0 n:=by
 unfold au8
 rw [if_pos (Nat.le_trans (aY3 n) h)]
end
end Go.Proofs.YtnobjeelihkjmaaGreatDoor
