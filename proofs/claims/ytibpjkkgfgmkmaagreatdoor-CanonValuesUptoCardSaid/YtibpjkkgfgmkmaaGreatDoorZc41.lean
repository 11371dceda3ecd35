/- Steps (CvN CvT CvP CvQ CvR CvS Stp Cq). Conditions: as stated. -/
import Derived.Test.YtibpjkkgfgmkmaaGreatDoorZc03
import Derived.Test.YtibpjkkgfgmkmaaGreatDoorZc36
import Derived.Test.YtibpjkkgfgmkmaaGreatDoorZc39
namespace Go.Proofs.YtibpjkkgfgmkmaaGreatDoor
section
open Go.RowKit
def aB7 (R:List UInt8):Prop:=R= []∨∃c r,R=c::r∧(c=32∨c=41∨c=44∨c=93∨c=59∨c=125∨c=58)
theorem aB7.of {c:UInt8} (r:List UInt8) (h:c=32∨c=41∨c=44∨c=93∨c=59∨c=125∨c=58):aB7 (c::r):= .inr ⟨c,r,rfl,h⟩
def DigL (d:List UInt8):Prop:= ∀c ∈ d,48≤c.toNat∧c.toNat≤57
theorem bG0 {c:UInt8} (h:48≤c.toNat∧c.toNat≤57):isD 0 c=true:=by
 unfold isD
 by_cases h1:48≤c.toNat∧c.toNat≤49
 ·rw [if_pos h1]
 ·rw [if_neg h1]
  by_cases h2:50≤c.toNat∧c.toNat≤55
  ·rw [if_pos h2];decide
  ·rw [if_neg h2,if_pos (by omega)];decide
theorem bu0 {b:Nat} {R:List UInt8} (p:Bool) (hb:b=0∨b=120) (h:aB7 R∨∃r,R=46::r):runN b p R=0:=by
 have key: ∀(c:UInt8) (r:List UInt8),c=32∨c=41∨c=44∨c=93∨c=59∨c=125∨c=58∨c=46→runN b p (c::r)=0:=by
  intro c r hc
  have h1:isD b c=false:=by rcases hb with rfl|rfl<;>rcases hc with rfl|rfl|rfl|rfl|rfl|rfl|rfl|rfl<;>kernel_rfl
  have h2:c≠95:=by rcases hc with rfl|rfl|rfl|rfl|rfl|rfl|rfl|rfl<;>decide
  rw [runN,if_neg (by rw [h1];decide),if_neg (fun h=>h2 h.1)]
 rcases h with (rfl|⟨c,r,rfl,hc⟩)|⟨r,rfl⟩
 ·rfl
 ·exact key c r (by rcases hc with h|h|h|h|h|h|h<;>simp [h])
 ·exact key 46 r (by simp)
theorem aD5 {b:Nat} {R:List UInt8} (hb:b=0∨b=120) (h:aB7 R∨∃r,R=46::r): ∀(d:List UInt8) (p:Bool),(∀c ∈ d,isD b c=true)→runN b p (d++R)=d.length
 | [],p,_=>bu0 p hb h
 |c::d,p,hd=>by
  rw [List.cons_append,runN,if_pos (hd c (.head _)),aD5 hb h d true (fun x hx=>hd x (.tail _ hx)),List.length_cons]
structure DecL (w:List UInt8) (pt:Bool) (f:List UInt8):Prop where
 ne:w≠ []
 dig:DigL w
 hd:w= [48]∨w.head?≠some 48
 fdig:DigL f
 nopt:pt=false→f= []
def decX (w:List UInt8) (pt:Bool) (f:List UInt8):List UInt8:=w++(if pt then 46::f else [])
theorem ofl5 (l:List UInt8):(⟨l.toArray⟩:ByteArray).size=l.length:=by
 show l.toArray.size=_
 simp
theorem aQ0 {s:ByteArray} {i:Nat} (h:i<s.size) {c:UInt8} (hc:s.data.toList[i]? =some c):s[i]=c:=by
 have h2:i<s.data.size:=h
 have:s.data[i]'h2=c:=by
  rw [Array.getElem?_toList] at hc
  rw [Array.getElem?_eq_getElem h2] at hc
  exact Option.some.inj hc
 exact this
theorem bR7 {c:UInt8} {l:List UInt8} (h:c≠48∨∀x r,l=x::r→x=46∨x=32∨x=41∨x=44∨x=93∨x=59∨x=125∨x=58):am0 ⟨(c::l).toArray⟩=false:=by
 unfold am0
 split
 ·rename_i h2
  have e0:(⟨(c::l).toArray⟩:ByteArray)[0]=c:=aQ0 (by omega) (by simp)
  rcases h with h|h
  ·rw [e0,beq_eq_false_iff_ne.2 h]
   rfl
  ·cases l with
   |nil=>rw [ofl5] at h2;simp at h2
   |cons x r=>
    have e1:(⟨(c::x::r).toArray⟩:ByteArray)[1]=x:=aQ0 (by omega) (by simp)
    rw [e1]
    rcases h x r rfl with rfl|rfl|rfl|rfl|rfl|rfl|rfl|rfl<;>simp
 ·rfl
theorem az7 (s:ByteArray) (k:Nat) (a b:List UInt8) (h:s.data.toList=a++b) (hk:a.length=k):s.extract k s.size=⟨b.toArray⟩:=by
 have e:(s.extract k s.size).data.toList=b:=by rw [af6,h,←hk,List.drop_left]
 cases hs:s.extract k s.size with
 |mk d=>
  rw [hs] at e
  simp only at e
  rw [←e]
theorem bq3 {w f R:List UInt8} {pt:Bool} (h:DecL w pt f) (hR:aB7 R):ak2 (decX w pt f++R)=(decX w pt f).length:=by
 obtain⟨h0,hdg,hh,hf,hp⟩:=h
 obtain⟨T,hT⟩: ∃T,(if pt then 46::f else [])++R=T:=⟨_,rfl⟩
 have hX:decX w pt f++R=w++T:=by unfold decX;rw [List.append_assoc,hT]
 have hTs:aB7 T∨∃r,T=46::r:=by
  cases pt with
  |true=>exact .inr ⟨f++R,by rw [←hT];rfl⟩
  |false=>exact .inl (by rw [←hT];exact hR)
 have ho:am0 ⟨(w++T).toArray⟩=false:=by
  cases w with
  |nil=>exact absurd rfl h0
  |cons c w=>
   refine bR7 ?_
   rcases hh with hh|hh
   ·injection hh with e1 e2
    subst e2
    refine .inr fun x r hx=> ?_
    rcases hTs with (e|⟨y,r',e,hy⟩)|⟨r',e⟩
    ·rw [e] at hx;cases hx
    ·rw [e] at hx;injection hx with h1 h2;subst h1;exact .inr hy
    ·rw [e] at hx;injection hx with h1 h2;exact .inl h1.symm
   ·exact .inl (by rintro rfl;exact hh rfl)
 have hw:(ac2 ⟨(w++T).toArray⟩).2=⟨T.toArray⟩∧(ac2 ⟨(w++T).toArray⟩).1.size=w.length:=by
  unfold ac2
  rcases hh with rfl|hh
  ·rw [if_pos (by rfl)]
   exact⟨az7 _ 1 [48] T rfl rfl,rfl⟩
  ·rw [if_neg]
   ·unfold runB
    rw [show (⟨(w++T).toArray⟩:ByteArray).data.toList=w++T by simp,aD5 (.inl rfl) hTs w false (fun c hc=>bG0 (hdg c hc))]
    refine⟨az7 _ _ w T (by simp) rfl,?_⟩
    rw [ByteArray.size_extract,ofl5,List.length_append]
    omega
   ·cases w with
    |nil=>exact absurd rfl h0
    |cons c w=>
     show¬Lib.hasPrefix (c::(w++T)) [48]=true
     rw [show Lib.hasPrefix (c::(w++T)) [48]=false by
      show((48:UInt8)==c && true)=false
      rw [Bool.and_true,beq_eq_false_iff_ne]
      rintro rfl
      exact hh rfl]
     decide
 have hpt:ah0 ⟨T.toArray⟩=(pt,⟨f.toArray⟩,⟨R.toArray⟩):=by
  unfold ah0
  cases pt with
  |true=>
   subst hT
   rw [if_pos (by rfl)]
   unfold runB
   rw [az7 _ 1 [46] (f++R) rfl rfl,show(⟨(f++R).toArray⟩:ByteArray).data.toList=f++R by simp,aD5 (.inl rfl) (.inl hR) f false (fun c hc=>bG0 (hf c hc)),az7 _ _ f R (by simp) rfl]
   have e:(⟨(f++R).toArray⟩:ByteArray).extract 0 f.length=⟨f.toArray⟩:=by
    have e2:((⟨(f++R).toArray⟩:ByteArray).extract 0 f.length).data.toList=f:=by
     simp [ByteArray.data_extract,List.extract]
    cases hs:(⟨(f++R).toArray⟩:ByteArray).extract 0 f.length with
    |mk d=>
     rw [hs] at e2
     simp only at e2
     rw [←e2]
   rw [e]
  |false=>
   have hf0:=hp rfl
   subst hf0 hT
   have h46:Lib.hasPrefix (⟨(([]:List UInt8)++R).toArray⟩:ByteArray).data.toList [46]=false:=by
    rcases hR with rfl|⟨c,r,rfl,hc⟩
    ·rfl
    ·show((46:UInt8)==c && true)=false
     rw [Bool.and_true,beq_eq_false_iff_ne]
     rintro rfl
     revert hc
     decide
   exact if_neg (by show¬Lib.hasPrefix (⟨(([]:List UInt8)++R).toArray⟩:ByteArray).data.toList [46]=true;rw [h46];decide)
 have hec: ∀x:Lit,expL x ⟨R.toArray⟩=(x,⟨R.toArray⟩):=by
  intro x
  unfold expL expO
  rcases hR with rfl|⟨c,r,rfl,hc⟩
  ·rfl
  ·rw [dif_pos (by rw [ofl5];simp),show(⟨(c::r).toArray⟩:ByteArray)[0]'(by rw [ofl5];simp)=c from aQ0 (by rw [ofl5];simp) (by simp),if_neg (by rcases hc with rfl|rfl|rfl|rfl|rfl|rfl|rfl<;>decide)]
 have hbg: ∀x:Lit,bigL x ⟨R.toArray⟩=(x,⟨R.toArray⟩):=by
  intro x
  unfold bigL
  rw [if_neg]
  have:Lib.hasPrefix (⟨R.toArray⟩:ByteArray).data.toList [110]=false:=by
   rcases hR with rfl|⟨c,r,rfl,hc⟩
   ·rfl
   ·show((110:UInt8)==c && true)=false
    rw [Bool.and_true,beq_eq_false_iff_ne]
    rintro rfl
    revert hc
    decide
  rw [this]
  simp
 have hsc:(aj7 ⟨(w++T).toArray⟩).2=(⟨R.toArray⟩,true):=by
  unfold aj7
  rw [if_neg (by rw [ho];decide)]
  unfold aA3
  simp only
  rw [hw.1,hpt,if_neg (by rw [hw.2];have:w.length≠0:=fun e=>h0 (List.length_eq_zero_iff.1 e);simp [this])]
  simp only
  rw [hec,hbg]
 rw [hX]
 unfold ak2 aI7
 rw [hsc]
 simp only [if_true]
 rw [ofl5,ofl5,←hX,List.length_append]
 omega
theorem bq4 {x:UInt8} {h R:List UInt8} (hx:x=120∨x=88) (h0:h≠ []) (hd: ∀c ∈ h,isD 120 c=true) (hR:aB7 R):ak2 (48::x::(h++R))=2+h.length:=by
 have hz:(⟨(48::x::(h++R)).toArray⟩:ByteArray).size=2+h.length+R.length:=by rw [ofl5];simp;omega
 have hl:0<h.length:=by
  rcases Nat.eq_zero_or_pos h.length with e|e
  ·exact absurd (List.length_eq_zero_iff.1 e) h0
  ·exact e
 have ho:am0 ⟨(48::x::(h++R)).toArray⟩=true:=by
  unfold am0
  rw [dif_pos (by rw [hz];omega)]
  have e0:(⟨(48::x::(h++R)).toArray⟩:ByteArray)[0]'(by rw [hz];omega)=48:=aQ0 (by rw [hz];omega) (by simp)
  have e1:(⟨(48::x::(h++R)).toArray⟩:ByteArray)[1]'(by rw [hz];omega)=x:=aQ0 (by rw [hz];omega) (by simp)
  rw [e0,e1]
  rcases hx with rfl|rfl<;>decide
 have hsc:(aj7 ⟨(48::x::(h++R)).toArray⟩).2=(⟨R.toArray⟩,true):=by
  unfold aj7
  rw [if_pos ho]
  unfold aA4
  have e1:((⟨(48::x::(h++R)).toArray⟩:ByteArray).data.toList[1]!.toNat|||32)=120:=by
   show(x.toNat|||32)=120
   rcases hx with rfl|rfl<;>rfl
  have e2:(⟨(48::x::(h++R)).toArray⟩:ByteArray).extract 2 (⟨(48::x::(h++R)).toArray⟩:ByteArray).size=⟨(h++R).toArray⟩:=az7 _ 2 [48,x] (h++R) rfl rfl
  have hr:runN 120 false (h++R)=h.length:=aD5 (.inr rfl) (.inl hR) h false hd
  have e3:(runB 120 ⟨(h++R).toArray⟩).2=⟨R.toArray⟩:=by
   unfold runB
   rw [show (⟨(h++R).toArray⟩:ByteArray).data.toList=h++R by simp,hr]
   exact az7 _ _ h R (by simp) rfl
  have e4:(runB 120 ⟨(h++R).toArray⟩).1.size=h.length:=by
   unfold runB
   rw [show (⟨(h++R).toArray⟩:ByteArray).data.toList=h++R by simp,hr,ByteArray.size_extract,ofl5,List.length_append]
   omega
  simp only
  rw [e1,e2,e3,e4,decide_eq_true hl]
  have e5:Lib.trimPrefix (⟨R.toArray⟩:ByteArray).data.toList [110]=R:=by
   rcases hR with rfl|⟨c,r,rfl,hc⟩
   ·rfl
   ·unfold Lib.trimPrefix
    have:Lib.hasPrefix (c::r) [110]=false:=by
     show((110:UInt8)==c && true)=false
     rw [Bool.and_true,beq_eq_false_iff_ne]
     rintro rfl
     revert hc
     decide
    simp [this]
  rw [e5]
 unfold ak2 aI7
 rw [hsc]
 simp only [if_true]
 rw [hz,ofl5]
 omega
theorem bk5 {R:List UInt8} (h:aB7 R): ¬(0<(nx R).2∧(ad0 (nx R).1=true∨ai9 R=true)):=by
 rcases h with rfl|⟨c,r,rfl,hc⟩
 ·rw [bG2]
  rintro⟨h,_⟩
  exact absurd h (by decide)
 ·rw [ad8 _ _ (by rcases hc with rfl|rfl|rfl|rfl|rfl|rfl|rfl<;>decide)]
  rintro⟨_,h|h⟩
  ·rcases hc with rfl|rfl|rfl|rfl|rfl|rfl|rfl
   ·rw [show ad0 ((32:UInt8).toNat:Int)=false by kernel_rfl] at h;cases h
   ·rw [show ad0 ((41:UInt8).toNat:Int)=false by kernel_rfl] at h;cases h
   ·rw [show ad0 ((44:UInt8).toNat:Int)=false by kernel_rfl] at h;cases h
   ·rw [show ad0 ((93:UInt8).toNat:Int)=false by kernel_rfl] at h;cases h
   ·rw [show ad0 ((59:UInt8).toNat:Int)=false by kernel_rfl] at h;cases h
   ·rw [show ad0 ((125:UInt8).toNat:Int)=false by kernel_rfl] at h;cases h
   ·rw [show ad0 ((58:UInt8).toNat:Int)=false by kernel_rfl] at h;cases h
  ·rcases hc with rfl|rfl|rfl|rfl|rfl|rfl|rfl<;>cases h
theorem aL0 {g:Int} {c:UInt8} {d R:List UInt8} (hc:48≤c.toNat∧c.toNat≤57) (hl:ak2 ((c::d)++R)=(c::d).length) (hR:aB7 R):af8 g ((c::d)++R)= .fine 3 (c::d).length:=by
 have hn:numL ((c::d)++R)=(c::d).length:=by
  unfold numL
  rw [hl,List.drop_left,if_neg (bk5 hR)]
 have ht:numT ((c::d)++R)= .fine 3 (c::d).length:=by
  unfold numT aft
  rw [hn,if_neg (by simp),List.drop_left,if_neg]
  rcases hR with rfl|⟨y,r,rfl,hy⟩
  ·rw [bG2]
   decide
  ·rw [ad8 _ _ (by rcases hy with rfl|rfl|rfl|rfl|rfl|rfl|rfl<;>decide)]
   exact(show¬((1:Int)<0) by decide)
 have hne: ∀x:UInt8,¬(48≤x.toNat∧x.toNat≤57)→Lib.hasPrefix ((c::d)++R) [x]=false:=by
  intro x hx
  show(x==c && true)=false
  rw [Bool.and_true,beq_eq_false_iff_ne]
  rintro rfl
  exact hx hc
 rw [←ht]
 unfold af8
 rw [if_neg (by simp),if_neg (by rw [hne _ (by decide)];decide),if_neg (by rw [hne _ (by decide)];decide),if_pos (.inl (by show decide (48≤c.toNat∧c.toNat≤57)=true;exact decide_eq_true hc))]
end
section
open Go.RowKit
section
variable {s:ByteArray} {p:Nat} {gap l R:List UInt8}
theorem aW4 {c:UInt8} {l:List UInt8} (h:33≤c.toNat∧c.toNat<127∧c≠47∧c≠35):Ink0 (c::l):=bK1 h.1 h.2.1 h.2.2.1 h.2.2.2
def GapC (gap:List UInt8):Prop:=gap= []∨gap= [32]
theorem GapC.all {gap:List UInt8} (h:GapC gap): ∀c ∈ gap,c=32∨c=10:=by
 rcases h with rfl|rfl<;>simp
theorem bv9 {w f:List UInt8} {pt:Bool} {c:UInt8} {d:List UInt8} (hg:GapC gap) (h:DecL w pt f) (hx:decX w pt f=c::d) (hc:48≤c.toNat∧c.toNat≤57) (hR:aB7 R) (hd:s.data.toList.drop p=gap++((c::d)++R)) (hp:p≤s.size): ∃p' t,Tat s p 3 ⟨(c::d).toArray⟩ R p' t:=
 aw1 hg.all hd hp (aW4 ⟨by omega,by omega,by rintro rfl;simp at hc,by rintro rfl;simp at hc⟩) (fun _ _=>aL0 hc (by rw [←hx];exact bq3 h hR) hR)
theorem bb5 {x:UInt8} {h:List UInt8} (hg:GapC gap) (hx:x=120∨x=88) (h0:h≠ []) (hh: ∀c ∈ h,isD 120 c=true) (hR:aB7 R) (hd:s.data.toList.drop p=gap++((48::x::h)++R)) (hp:p≤s.size): ∃p' t,Tat s p 3 ⟨(48::x::h).toArray⟩ R p' t:=
 aw1 hg.all hd hp (aW4 (by decide)) (fun _ _=>aL0 (by decide) (by have:=bq4 (R:=R) hx h0 hh hR;rw [show (48::x::h)++R=48::x::(h++R) from rfl,this];simp;omega) hR)
theorem bO1 {g:Int} (l:List UInt8):af8 g (96::101::96::l)= .fine 7 3:=by
 have h1:tpl (96::l)= .fine 1 false:=by rw [aP4,if_pos (by rfl)]
 have h2:tpl (101::96::l)= .fine 2 false:=by
  rw [aP4,if_neg (by rw [ae0 (by decide)];decide),if_neg (by rw [ae0 (by decide)];decide),show esc (101::96::l)=0 by unfold esc;rw [if_neg (by rw [ae0 (by decide)];decide)],List.drop_zero,ad8 _ _ (by decide),if_neg (show¬((1:Int)=0) by decide),if_neg (show¬((1:Int)<0) by decide)]
  show(tpl (96::l)).shift _=_
  rw [h1]
  rfl
 unfold af8
 rw [if_neg (by simp),if_pos (by rfl)]
 show tpTk 8 7 (tpl (101::96::l))=_
 rw [h2]
 rfl
theorem bw0 (hg:GapC gap) (hd:s.data.toList.drop p=gap++(96::101::96::l)) (hp:p≤s.size): ∃p' t,Tat s p 7 ⟨#[96,101,96]⟩ l p' t:=
 aw1 (a:= [96,101,96]) hg.all hd hp (aW4 (by decide)) (fun _ _=>bO1 l)
end
end
section
open Go.RowKit
section
variable {s:ByteArray} {m:Bool} {i j g g' fl ne ar ar2 B:Int} {t u v w a b c d e o tk:Tk} {n k:Nd} {p:Ps} {f:Nat}
structure Ufn (t:Tk):Prop where
 k2:t.kind≠2
 nm: ∀x:ByteArray,x=⟨#[100,101,108,101,116,101]⟩∨x=⟨#[118,111,105,100]⟩∨x=⟨#[116,121,112,101,111,102]⟩∨x=⟨#[97,119,97,105,116]⟩∨x=⟨#[121,105,101,108,100]⟩∨x=⟨#[97,115,121,110,99]⟩→nameT t x=false
 pn: ∀x:ByteArray,x=⟨#[43]⟩∨x=⟨#[45]⟩∨x=⟨#[126]⟩∨x=⟨#[33]⟩∨x=⟨#[43,43]⟩∨x=⟨#[45,45]⟩∨x=⟨#[41]⟩∨x=⟨#[46,46,46]⟩∨x=⟨#[93]⟩∨x=⟨#[44]⟩→punctT t x=false
theorem Ufn.nmT (h:Nm t):Ufn t:=by
 refine⟨by rw [h.kind];decide,fun x hx=> ?_,fun x _=>h.punctT x⟩
 rcases hx with rfl|rfl|rfl|rfl|rfl|rfl
 ·exact h.nameT (by decide)
 ·exact h.nameT (by decide)
 ·exact h.nameT (by decide)
 ·exact aN8 h.aw
 ·exact h.nameT (by decide)
 ·exact aN8 h.asy
theorem Ufn.lit (h:t.kind=3∨t.kind=4∨t.kind=6∨t.kind=7):Ufn t:=
 ⟨by omega,fun _ _=>ad7 (by omega),fun _ _=>ae7 (by omega)⟩
theorem Ufn.opn {x:UInt8} (hc:x=40∨x=91) (h:Opn x t):Ufn t:=by
 refine⟨by rw [h.kind];decide,fun y _=>h.name y,fun y hy=>h.no ?_⟩
 rcases hc with rfl|rfl<;>rcases hy with rfl|rfl|rfl|rfl|rfl|rfl|rfl|rfl|rfl|rfl<;>decide
def Bas (s:ByteArray) (m:Bool) (F:Nat) (t:Tk) (n:Nd) (j:Int) (w:Tk) (B:Int):Prop:=
 ∀i ne ar:Int,0≤ne→ne<B→∃q ar2,runQ s m F (.base t true) (Zs i t 2 1 ne ar)= .ok n q∧ac5 s 1 q= .ok w (Zs j w 1 1 ne ar2)
def Una (s:ByteArray) (m:Bool) (F:Nat) (t:Tk) (n:Nd) (j:Int) (u:Tk) (B:Int):Prop:=
 ∀i ne ar:Int,0≤ne→ne<B→∃ar2,runQ s m F .unary (Zs i t 2 1 ne ar)= .ok n (Zs j u 1 1 ne ar2)
def Asg (s:ByteArray) (m:Bool) (F:Nat) (t:Tk) (n:Nd) (j:Int) (u:Tk) (B:Int):Prop:=
 ∀i ne ar:Int,0≤ne→ne<B→∃ar2,runQ s m F .assign (Zs i t 2 1 ne ar)= .ok n (Zs j u 1 1 ne ar2)
theorem bx3 (F:Nat) (h:t.kind=3∨t.kind=4) (hs:Sees s 1 t.till u):Bas s m (F+2) t (ah2 t.kind t) t.till u B:=by
 intro i ne ar h0 h1
 have k1:t.kind≠1:=by omega
 refine⟨Zs t.till t 0 1 ne ar,ar,?_,ah7 hs⟩
 show au9 s m (runQ s m (F+1)) t true _=_
 unfold au9
 rw [if_neg (by rw [ad7 k1];decide),if_neg (by rw [ad7 k1];decide),if_neg (by rw [ad7 k1];decide)]
 show ag0 (runQ s m F) t _=_
 unfold ag0
 rw [if_pos h,PM.go au6]
 rfl
theorem bE7 (F:Nat) (h:t.kind=6) (hs:Sees s 1 t.till u):Bas s m (F+2) t (ah2 5 t) t.till u B:=by
 intro i ne ar h0 h1
 have k1:t.kind≠1:=by omega
 refine⟨Zs t.till t 0 1 ne ar,ar,?_,ah7 hs⟩
 show au9 s m (runQ s m (F+1)) t true _=_
 unfold au9
 rw [if_neg (by rw [ad7 k1];decide),if_neg (by rw [ad7 k1];decide),if_neg (by rw [ad7 k1];decide)]
 show ag0 (runQ s m F) t _=_
 unfold ag0
 rw [if_neg (by omega),if_pos h,PM.go au6]
 rfl
theorem bI0 (F:Nat) (h:t.kind=7) (hz:2≤t.text.size∧t.text.size≤16777216) (he:(t.text.extract 1 (t.text.size - 1)).data.toList.contains 92=false) (hs:Sees s 1 t.till u):Bas s m (F+4) t (.mk 8 ⟨#[]⟩ [ay4 t 1] t.from' t.till) t.till u B:=by
 intro i ne ar h0 h1
 have k1:t.kind≠1:=by omega
 refine⟨Zs t.till t 0 1 ne ar,ar,?_,ah7 hs⟩
 show au9 s m (runQ s m (F+3)) t true _=_
 unfold au9
 rw [if_neg (by rw [ad7 k1];decide),if_neg (by rw [ad7 k1];decide),if_neg (by rw [ad7 k1];decide)]
 show ag0 (runQ s m (F+2)) t _=_
 unfold ag0
 rw [if_neg (by omega),if_neg (by omega),if_pos (.inl h)]
 show an5 false _=_
 unfold an5
 rw [PM.go (aI3 _),if_neg,PM.go au6]
 ·rfl
 ·rintro(⟨_,h9⟩|h9|h9|h9|h9)
  ·rw [show (t.text.extract 1 (t.text.size - 1)).data.toList.contains 92=true from h9] at he
   cases he
  ·have:t.kind=8:=h9
   omega
  ·have:t.kind=10:=h9
   omega
  ·have:t.text.size<2:=h9
   omega
  ·have:16777216<t.text.size:=h9
   omega
theorem bc6 (F:Nat) (h:Nm t) (hs:Sees s 1 t.till u):Bas s m (F+3) t (ah2 1 t) t.till u B:=
 fun _ ne ar _ _=>⟨Zs t.till t 0 1 ne ar,ar,bP3 F h (.inr rfl) true,ah7 hs⟩
theorem bc3 {F:Nat} {C':CsC} (_hv:Sees s 2 i v) (hf:Ufn v) (hx:runQ s m F .assign (Zs i v 2 1 ne ar)= .ok k (@Zs C' j u 1 1 ne ar2)) (hk:k.kind≠18) (hu:Opn 41 u):
  runQ s m (F+2) (.arguments g) (Zs i tk 0 1 ne ar)= .ok (.mk 36 ⟨#[]⟩ [k] g u.till) (@Zs C' u.till u 0 1 ne ar2):=by
 have hone:(if 4194304<([]:List Nd).length then outP else do
   let k←runQ s m (F+1) .spread
   am9 s k
   return ([]:List Nd)++ [k]:PM (List Nd)) (Zs i v 2 1 ne ar)= .ok [k] (@Zs C' j u 1 1 ne ar2):=by
  rw [if_neg (by decide),PM.go (aP0 (hf.pn _ (by simp)) hx),PM.go (aV5 hk _)]
  rfl
 have hl:aC0 s ⟨#[41]⟩ 2 (fun kids=>if 4194304<kids.length then outP else do
   let k←runQ s m (F+1) .spread
   am9 s k
   return kids++ [k]) (F+1) ([]:List Nd) false (Zs i tk 0 1 ne ar)= .ok ([k],false) (@Zs C' u.till u 0 1 ne ar2):=by
  unfold aC0
  rw [PM.go (ah7 _hv),if_neg (by rw [hf.pn _ (by simp)];decide),PM.go hone,PM.go (ac9 (C:=C') (by decide)),if_pos hu.yes,PM.go (au6 (C:=C'))]
  rfl
 show ak5 s (F+1) (runQ s m (F+1)) g _=_
 unfold ak5
 rw [PM.go (bH5 hl)]
 rfl
theorem bH9 {F:Nat} (ht:Opn 40 t) (hv:Sees s 2 t.till v) (hf:Ufn v) (hx:Asg s m F v k j u B) (hk:k.kind≠18) (hj:k.till=j) (hju:Sees s 1 j u) (hu:Opn 41 u) (hw:Sees s 1 u.till w) (hwa:punctT w ⟨#[61,62]⟩=false):
  Bas s m (F+5) t (.mk 26 ⟨#[]⟩ [k] t.from' u.till) u.till w B:=by
 intro i ne ar h0 h1
 obtain⟨ar2,hx⟩:=hx t.till ne ar h0 h1
 have hb:=bE8 (s:=s) (m:=m) (f:=F+3) (.inl rfl) ht (Zs i t 2 1 ne ar)
 rw [if_pos rfl] at hb
 have ha:runQ s m (F+2) (.arguments t.from') (Zs t.till t 0 1 ne ar)= .ok (.mk 36 ⟨#[]⟩ [k] t.from' u.till) (Zs u.till u 0 1 ne ar2):=bc3 hv hf hx hk hu
 have hb2: ∀q:Ps,aj9 s (.mk 36 ⟨#[]⟩ [k] t.from' u.till) q= .ok false q:=by
  intro q
  unfold aj9
  rw [if_neg (show¬(4194304<(Nd.mk 36 ⟨#[]⟩ [k] t.from' u.till).kids.length) from by show¬(4194304<1);decide)]
  show(ax5 s k.till>>=_) _=_
  rw [hj,PM.go (bG1 hju _),hu.no (by decide)]
  rfl
 have hany: ¬(([k].isEmpty|| [k].any (fun k=>decide (k.kind=18)))=true):=by
  rw [List.any_cons,List.any_nil,decide_eq_false hk];simp
 by_cases har:t.from'=ar
 ·refine⟨Zs u.till w 1 1 ne ar2,ar2,?_,ac9 (by decide)⟩
  rw [hb]
  show ax9 s (runQ s m (F+2)) t _=_
  unfold ax9
  rw [PM.go (aI3 _),PM.go au6,PM.go ha]
  have hp:(if t.from'=(Zs i t 2 1 ne ar).arrow then do
    let next←ac5 s 1
    return (punctT next ⟨#[61,62]⟩ && !next.line)
   else return false:PM Bool) (Zs u.till u 0 1 ne ar2)= .ok false (Zs u.till w 1 1 ne ar2):=by
   rw [if_pos (show t.from'=(Zs i t 2 1 ne ar).arrow from har),PM.go (ah7 hw),hwa]
   rfl
  rw [PM.go hp,if_neg (by decide)]
  unfold be8
  rw [if_neg (by exact hany),PM.go (hb2 _),if_neg (by decide)]
  rfl
 ·refine⟨Zs u.till u 0 1 ne ar2,ar2,?_,ah7 hw⟩
  rw [hb]
  show ax9 s (runQ s m (F+2)) t _=_
  unfold ax9
  rw [PM.go (aI3 _),PM.go au6,PM.go ha]
  have hp:(if t.from'=(Zs i t 2 1 ne ar).arrow then do
    let next←ac5 s 1
    return (punctT next ⟨#[61,62]⟩ && !next.line)
   else return false:PM Bool) (Zs u.till u 0 1 ne ar2)= .ok false (Zs u.till u 0 1 ne ar2):=by
   rw [if_neg (show¬t.from'=(Zs i t 2 1 ne ar).arrow from har)]
   rfl
  rw [PM.go hp,if_neg (by decide)]
  unfold be8
  rw [if_neg (by exact hany),PM.go (hb2 _),if_neg (by decide)]
  rfl
theorem aH8 {F:Nat} (hf:Ufn t) (hk:n.kind≠22) (hu:Endy u) (hl:runQ s m F .leftHand (Zs i t 2 1 ne ar)= .ok n (Zs j u 1 1 ne ar2)):runQ s m (F+1) .unary (Zs i t 2 1 ne ar)= .ok n (Zs j u 1 1 ne ar2):=by
 show aH9 s (runQ s m F) _=_
 unfold aH9
 rw [PM.go (ac9 (by decide)),if_neg (by rw [hf.nm _ (by simp),hf.nm _ (by simp),hf.nm _ (by simp),hf.pn _ (by simp),hf.pn _ (by simp),hf.pn _ (by simp),hf.pn _ (by simp)];decide),PM.go (aI3 _),if_neg (by rw [hf.nm _ (by simp)];simp),if_neg (by rw [hf.pn _ (by simp),hf.pn _ (by simp)];decide),PM.go hl,if_neg hk,PM.go (ac9 (by decide)),if_neg (by rw [hu.inc,hu.dec];simp)]
 rfl
theorem ai8 {F:Nat} (hb:Bas s m (F+1) t n j u B) (hf:Ufn t) (hk:n.kind≠22) (ha: ¬(n.kind=1∧n.text=⟨#[97,115,121,110,99]⟩)) (hu:Endy u):Una s m (F+3) t n j u B:=by
 intro i ne ar h0 h1
 obtain⟨q,ar2,h2,h3⟩:=hb i ne ar h0 h1
 refine⟨ar2,aH8 hf hk hu ?_⟩
 show ae5 s (F+1) (runQ s m (F+1)) _=_
 unfold ae5
 rw [PM.go (ac9 (by decide)),PM.go (aI3 _)]
 show(runQ s m (F+1) (.base t true)>>=_) _=_
 rw [PM.go h2,if_neg hk,if_neg (by rintro h;apply ha;revert h;simp;exact fun _ x y=>⟨x,y⟩)]
 unfold ae5.linkL
 rw [PM.go h3,if_neg (by rw [hu.opt];decide),PM.go (bq2 F n true true hu (ac9 (by decide))),if_neg (show¬((false:Bool)=true) by decide)]
 rfl
theorem bD7 {F:Nat} (hb:Bas s m (F+4) t n j o B) (hf:Ufn t) (hk:n.kind≠22) (ha: ¬(n.kind=1∧n.text=⟨#[97,115,121,110,99]⟩)) (ho:Opn 40 o) (hv:Sees s 2 o.till v) (hfv:Ufn v) (hx:Asg s m F v k g u B) (hk8:k.kind≠18) (hu:Opn 41 u) (hw:Sees s 1 u.till w) (hwe:Endy w):
  Una s m (F+6) t (.mk 35 ⟨#[]⟩ [n,.mk 36 ⟨#[]⟩ [k] o.from' u.till] n.from' u.till) u.till w B:=by
 intro i ne ar h0 h1
 obtain⟨q,ar1,h2,h3⟩:=hb i ne ar h0 h1
 obtain⟨ar2,hx⟩:=hx o.till ne ar1 h0 h1
 refine⟨ar2,aH8 hf (show(35:Int)≠22 by decide) hwe ?_⟩
 have hargs:runQ s m (F+3) .args (Zs j o 1 1 ne ar1)= .ok (.mk 36 ⟨#[]⟩ [k] o.from' u.till) (Zs u.till u 0 1 ne ar2):=by
  show aV0 s (runQ s m (F+2)) _=_
  unfold aV0
  rw [PM.go (bg2 (ac9 (by decide)) ho.yes)]
  exact bc3 hv hfv hx hk8 hu
 have hlink:runQ s m (F+4) (.link n true true) (Zs j o 1 1 ne ar1)= .ok (.mk 35 ⟨#[]⟩ [n,.mk 36 ⟨#[]⟩ [k] o.from' u.till] n.from' u.till,true) (Zs u.till u 0 1 ne ar2):=by
  show aN6 s (runQ s m (F+3)) n true true _=_
  unfold aN6
  rw [PM.go (ac9 (by decide)),if_neg (by rw [ho.no (by decide)];decide),if_neg (by rw [ho.no (by decide)];decide),if_pos (by rw [ho.yes];rfl),PM.go hargs]
  rfl
 show ae5 s (F+4) (runQ s m (F+4)) _=_
 unfold ae5
 rw [PM.go (ac9 (by decide)),PM.go (aI3 _)]
 show(runQ s m (F+4) (.base t true)>>=_) _=_
 rw [PM.go h2,if_neg hk,if_neg (by rintro h;apply ha;revert h;simp;exact fun _ x y=>⟨x,y⟩)]
 unfold ae5.linkL
 rw [PM.go h3,if_neg (by rw [ho.no (by decide)];decide),PM.go hlink,if_pos rfl]
 unfold ae5.linkL
 rw [PM.go (ah7 hw),if_neg (by rw [hwe.opt];decide),PM.go (bq2 (F+3) _ true true hwe (ac9 (by decide))),if_neg (show¬((false:Bool)=true) by decide)]
 rfl
theorem bI1 {F:Nat} {v2 u2:Tk} {k2:Nd} {j2:Int} (ht:Opn 91 t) (hv:Sees s 2 t.till v) (hsl:as7 v=false) (hfv:Ufn v) (hx:Asg s m (F+2) v k j u B) (hk:k.kind≠18) (hu:Opn 44 u) (hv2:Sees s 2 u.till v2) (hsl2:as7 v2=false) (hfv2:Ufn v2) (hx2:Asg s m (F+2) v2 k2 j2 u2 B) (hk2:k2.kind≠18) (hu2:Opn 93 u2) (hw:Sees s 1 u2.till w):
  Bas s m (F+6) t (.mk 11 ⟨#[]⟩ [k,k2] t.from' u2.till) u2.till w B:=by
 intro i ne ar h0 h1
 obtain⟨ar1,hx⟩:=hx t.till ne ar h0 h1
 obtain⟨ar2,hx2⟩:=hx2 u.till ne ar1 h0 h1
 refine⟨Zs u2.till u2 0 1 ne ar2,ar2,?_,ah7 hw⟩
 have hb:=bE8 (s:=s) (m:=m) (f:=F+4) (.inr rfl) ht (Zs i t 2 1 ne ar)
 rw [if_neg (by decide)] at hb
 rw [hb]
 show aE2 s (F+3) (runQ s m (F+3)) _=_
 unfold aE2
 have hl:aq6 s (runQ s m (F+3)) (F+3) [] (Zs t.till t 0 1 ne ar)= .ok [k,k2] (Zs j2 u2 1 1 ne ar2):=by
  unfold aq6
  rw [if_neg (by decide),PM.go (ah7 hv),if_neg (by rw [hfv.pn _ (by simp)];decide),PM.go (bK2 (aO1 (by decide) (by decide) (by decide) hsl) (hfv.pn _ (by simp))),if_neg (by decide),PM.go (aP0 (hfv.pn _ (by simp)) hx),PM.go (aV5 hk _),PM.go (ac9 (by decide)),if_neg (by rw [hu.no (by decide)];decide),PM.go (bg2 (ac9 (by decide)) hu.yes)]
  unfold aq6
  rw [if_neg (show¬(4194304<([]++ [k]:List Nd).length) from by show¬(4194304<1);decide),PM.go (ah7 hv2),if_neg (by rw [hfv2.pn _ (by simp)];decide),PM.go (bK2 (aO1 (by decide) (by decide) (by decide) hsl2) (hfv2.pn _ (by simp))),if_neg (by decide),PM.go (aP0 (hfv2.pn _ (by simp)) hx2),PM.go (aV5 hk2 _),PM.go (ac9 (by decide)),if_pos hu2.yes]
  unfold aq6
  rw [if_neg (show¬(4194304<([]++ [k]++ [k2]:List Nd).length) from by show¬(4194304<2);decide),PM.go (aO1 (by decide) (by decide) (by decide) (hu2.slash (by decide))),if_pos hu2.yes]
  rfl
 rw [PM.go au6,PM.go (bH5 hl),PM.go au6]
 rfl
end
end
section
open Go.RowKit
section
variable {s:ByteArray} {m:Bool} {i j g g' fl ne ar ar2 B:Int} {t u v w a b c d e o tk:Tk} {n k:Nd} {p:Ps} {f:Nat}
theorem Bas.mono {F:Nat} {B':Int} (h:Bas s m F t n j u B) (hb:B'≤B):Bas s m F t n j u B':=fun i ne ar h0 h1=>h i ne ar h0 (by omega)
theorem Una.mono {F:Nat} {B':Int} (h:Una s m F t n j u B) (hb:B'≤B):Una s m F t n j u B':=fun i ne ar h0 h1=>h i ne ar h0 (by omega)
theorem Asg.mono {F:Nat} {B':Int} (h:Asg s m F t n j u B) (hb:B'≤B):Asg s m F t n j u B':=fun i ne ar h0 h1=>h i ne ar h0 (by omega)
theorem bs1 (h:Opn 43 u):Opr u:=by
 have hk:=h.kind
 refine⟨by rw [decide_eq_false (by omega)];rfl,by rw [h.text];decide,by rw [h.text];decide,by rw [h.text];decide,?_⟩
 exact⟨h.no (by decide),h.no (by decide),h.no (by decide),h.no (by decide),by omega,by omega,h.no (by decide),h.no (by decide)⟩
def Aft (u:Tk):Prop:=Opn 43 u∨Stp u
theorem Aft.endy (h:Aft u):Endy u:=by
 rcases h with h|h
 ·exact(bs1 h).e
 ·exact h.e
theorem bm3 {F:Nat} (hu:Una s m F t n j u B) (hs:Sees s 2 i t) (hk2:t.kind≠2) (h22:n.kind≠22) (ha:Aft u) (h0:0≤ne) (h1:ne<B):
  ∃ar2,runQ s m (F+2) (.binary (ab2 ⟨#[43]⟩+1) false) (Zs i tk 0 1 ne ar)= .ok n (Zs j u 1 1 ne ar2):=by
 obtain⟨ar2,h2⟩:=hu i ne ar h0 h1
 refine⟨ar2,?_⟩
 show ae1 s (F+1) (runQ s m (F+1)) (ab2 ⟨#[43]⟩+1) false _=_
 unfold ae1
 rw [PM.go ((av4 (f:=F) _ (ah7 hs) hk2).trans h2),if_neg h22]
 unfold ae1.opsL
 rcases ha with ha|ha
 ·rw [PM.go (aK4 (bs1 ha)),if_pos (.inl (by rw [ha.text];show ab2 ⟨#[43]⟩<ab2 ⟨#[43]⟩+1;decide))]
  rfl
 ·obtain⟨r,r1,r2⟩:=av5 (s:=s) (i:=j) (ne:=ne) (ar:=ar2) ha
  rw [PM.go r2,if_pos (.inr r1)]
  rfl
theorem bB9 {F g0:Nat} {x:Nd} (ho:Opn 43 o) (hu:Una s m F t n j u B) (hs:Sees s 2 o.till t) (hk2:t.kind≠2) (h22:n.kind≠22) (ha:Aft u) (h0:0≤ne) (h1:ne<B):
  ∃ar2,ae1.opsL s (runQ s m (F+2)) 1 false (g0+1) x (Zs i o 1 1 ne ar)=ae1.opsL s (runQ s m (F+2)) 1 false g0 (.mk 29 ⟨#[43]⟩ [x,n] x.from' j) (Zs j u 1 1 ne ar2):=by
 obtain⟨ar2,h2⟩:=bm3 (tk:=o) (ar:=ar) hu hs hk2 h22 ha h0 h1
 have hl1:(1:Int)≤ab2 ⟨#[43]⟩:=by decide
 have htx:=ho.text
 refine⟨ar2,?_⟩
 rw [ae1.opsL]
 rw [PM.go (aK4 (bs1 ho)),if_neg (by rw [show ((o,ab2 o.text):Tk × Int).2=ab2 o.text from rfl,htx];omega),if_neg (by show¬(_=true);rw [show ((o,ab2 o.text):Tk × Int).1=o from rfl,htx];simp),PM.go au6]
 have hd:(if ((o,ab2 o.text):Tk × Int).1.text=⟨#[42,42]⟩ then do
    let u←ac5 s 2
    ag4 u.from' (runQ s m (F+2) (.binary ((o,ab2 o.text):Tk × Int).2 false))
   else runQ s m (F+2) (.binary (((o,ab2 o.text):Tk × Int).2+1) (decide (((o,ab2 o.text):Tk × Int).1.text=⟨#[63,63]⟩))):PM Nd) (Zs o.till o 0 1 ne ar)= .ok n (Zs j u 1 1 ne ar2):=by
  rw [if_neg (by show¬(o.text=_);rw [htx];decide)]
  show runQ s m (F+2) (.binary (ab2 o.text+1) (decide (o.text=⟨#[63,63]⟩))) _=_
  rw [htx]
  exact h2
 rw [PM.go hd]
 show ae1.opsL s (runQ s m (F+2)) 1 false g0 (.mk 29 o.text [x,n] x.from' j) (Zs j u 1 1 ne ar2)=_
 rw [htx]
theorem bM3 {F g0:Nat} {x:Nd} (hu:Stp u):ae1.opsL s (runQ s m F) 1 false (g0+1) x (Zs i u 1 1 ne ar)= .ok x (Zs i u 1 1 ne ar):=by
 obtain⟨r,r1,r2⟩:=av5 (s:=s) (i:=i) (ne:=ne) (ar:=ar) hu
 unfold ae1.opsL
 rw [PM.go r2,if_pos (.inr r1)]
 rfl
theorem aJ3 {F:Nat} (hf:Ufn t) (hk:n.kind≠22) (hq:punctT u ⟨#[63]⟩=false) (hasg:af1 u=false) (hv:Sees s 1 t.till v) (hvr:punctT v ⟨#[61,62]⟩=false) (hb: ∀i ne ar:Int,0≤ne→ne<B→∃ar2,runQ s m F (.binary 1 false) (Zs i t 2 1 ne ar)= .ok n (Zs j u 1 1 ne ar2)) (hB:B≤4000):Asg s m (F+2) t n j u (B - 1):=by
 intro i ne ar h0 h1
 obtain⟨ar2,h2⟩:=hb i (ne+1) t.from' (by omega) (by omega)
 exact⟨ar2,aJ4 (f:=F+1) (hf.nm _ (by simp)) (hf.nm _ (by simp)) (ac9 (by decide)) hv hvr h0 (by omega) (bF1 h2 hk hq) (aJ5 hk hasg)⟩
structure Cl3 (u:Tk):Prop where
 stp:Stp u
 q:punctT u ⟨#[63]⟩=false
 asg:af1 u=false
 arr:punctT u ⟨#[61,62]⟩=false
theorem bd2 {x:UInt8} (h:Opn x u) (hx:x=41∨x=44∨x=93):Cl3 u:=by
 have hk:=h.kind
 refine⟨⟨.inr (by rw [h.text];rcases hx with rfl|rfl|rfl<;>decide),h.no ?_,h.no ?_,h.no ?_,h.no ?_,by omega,by omega,h.no ?_,h.no ?_⟩,h.no ?_,?_,h.no ?_⟩
 case refine_8=>
  unfold af1
  rw [h.text]
  rcases hx with rfl|rfl|rfl<;>(rw [Bool.and_eq_false_iff];right;decide)
 all_goals rcases hx with rfl|rfl|rfl<;>decide
theorem bI6 (h0:u.kind=0):Cl3 u:=by
 have h5:u.kind≠5:=by omega
 have h1:u.kind≠1:=by omega
 refine⟨⟨.inl (by rw [decide_eq_true h5,ad7 h1,ad7 h1];rfl),ae7 h5,ae7 h5,ae7 h5,ae7 h5,by omega,by omega,ae7 h5,ae7 h5⟩,ae7 h5,?_,ae7 h5⟩
 unfold af1
 rw [decide_eq_false h5]
 rfl
theorem bH8 {F:Nat} (h:Una s m (F+1) t n j u B) (hf:Ufn t) (hk:n.kind≠22) (hu:Cl3 u) (hv:Sees s 1 t.till v) (hvr:punctT v ⟨#[61,62]⟩=false) (hB:B≤4000):Asg s m (F+5) t n j u (B - 1):=by
 refine aJ3 (F:=F+3) hf hk hu.q hu.asg hv hvr (fun i ne ar h0 h1=> ?_) hB
 obtain⟨ar2,h2⟩:=h i ne ar h0 h1
 exact⟨ar2,bI3 (f:=F+1) ((av4 (f:=F+1) 1 (ac9 (by decide)) hf.k2).trans h2) hk hu.stp⟩
end
end
section
open Go.RowKit
def oneP:Nat→List UInt8
 |0=> [49,46,48]
 |1=> [39,97,39]
 |2=> [40,98,41]
 |3=> [40,40,99,41,41]
 |4=> [91,100,44,32,48,120,48,102,93]
 |5=> [96,101,96]
 |6=> [47,102,47]
 |_=> [102,40,39,92,117,48,48,52,49,39,41]
def twoP:Nat→List UInt8
 |0=> [49]
 |1=> [34,92,120,54,49,34]
 |2=> [98]
 |3=> [99]
 |4=> [91,40,100,41,44,32,48,88,70,93]
 |5=> [40,96,101,96,41]
 |6=> [40,47,102,47,41]
 |_=> [40,102,41,40,40,39,65,39,41,41]
def lfN (k:Int) (t:ByteArray):Nd:= .mk k t [] 0 0
def oneN:Nat→Nd
 |0=>lfN 3 ⟨#[49,46,48]⟩
 |1=>lfN 4 ⟨#[39,97,39]⟩
 |2=>lfN 1 ⟨#[98]⟩
 |3=>lfN 1 ⟨#[99]⟩
 |4=> .mk 11 ⟨#[]⟩ [lfN 1 ⟨#[100]⟩,lfN 3 ⟨#[48,120,48,102]⟩] 0 0
 |5=> .mk 8 ⟨#[]⟩ [lfN 9 ⟨#[101]⟩] 0 0
 |6=>lfN 5 ⟨#[47,102,47]⟩
 |_=> .mk 35 ⟨#[]⟩ [lfN 1 ⟨#[102]⟩,.mk 36 ⟨#[]⟩ [lfN 4 ⟨#[39,92,117,48,48,52,49,39]⟩] 0 0] 0 0
def twoN:Nat→Nd
 |0=>lfN 3 ⟨#[49]⟩
 |1=>lfN 4 ⟨#[34,92,120,54,49,34]⟩
 |2=>lfN 1 ⟨#[98]⟩
 |3=>lfN 1 ⟨#[99]⟩
 |4=> .mk 11 ⟨#[]⟩ [lfN 1 ⟨#[100]⟩,lfN 3 ⟨#[48,88,70]⟩] 0 0
 |5=> .mk 8 ⟨#[]⟩ [lfN 9 ⟨#[101]⟩] 0 0
 |6=>lfN 5 ⟨#[47,102,47]⟩
 |_=> .mk 35 ⟨#[]⟩ [lfN 1 ⟨#[102]⟩,.mk 36 ⟨#[]⟩ [lfN 4 ⟨#[39,65,39]⟩] 0 0] 0 0
section
variable {s:ByteArray} {m:Bool} {i j ne ar B:Int} {t u v w o c:Tk} {n k:Nd} {p q p':Nat} {R r:List UInt8} {x:UInt8}
def StP (R:List UInt8):Prop:=R= []∨∃x r,R=x::r∧(x=32∨x=41)
theorem StP.num (h:StP R):aB7 R:=by
 rcases h with rfl|⟨x,r,rfl,h⟩
 ·exact .inl rfl
 ·exact .of r (by rcases h with h|h<;>simp [h])
def Pc (s:ByteArray) (m:Bool) (F:Nat) (p:Nat) (R:List UInt8) (N:Nd):Prop:=
 ∃t n,∃q:Nat,Sees s 2 p t∧Ufn t∧s.data.toList.drop q=R∧q≤s.size∧(∀u,Sees s 1 q u→Endy u→punctT u ⟨#[61,62]⟩=false→Una s m F t n q u 3880)∧ab1 n=N∧n.kind≠22∧n.kind≠18∧ad9 n=true∧aa0 n≤12
theorem al8 (K:Int) (t:Tk) (hK:K≠26):ab1 (ah2 K t)=lfN K t.text:=by
 unfold ah2
 rw [ab1,if_neg hK,af2]
 rfl
theorem aN2 (h:x=32∨x=40∨x=41∨x=44∨x=93) (l:List UInt8):al4 false (x::l)=false∧0≤(nx (x::l)).2:=by
 have hlow:x.toNat<128:=by rcases h with rfl|rfl|rfl|rfl|rfl<;>decide
 have hp:az9 ((x.toNat:Nat):Int)=false:=by rcases h with rfl|rfl|rfl|rfl|rfl<;>kernel_rfl
 refine⟨?_,by rw [ad8 _ _ hlow];exact(show(0:Int)≤1 by decide)⟩
 unfold al4
 rw [ad8 _ _ hlow]
 simp only [hp,Bool.false_and,Bool.or_false,Bool.and_false]
theorem aW3 (h:StP R):al4 false R=false∧0≤(nx R).2:=by
 rcases h with rfl|⟨x,r,rfl,h⟩
 ·exact⟨rfl,by decide⟩
 ·exact aN2 (by rcases h with h|h<;>simp [h]) r
theorem aP3 {gap:List UInt8} (hg:GapC gap) (hx:low x) (hl:al4 false R=false∧0≤(nx R).2) (hd:s.data.toList.drop p=gap++(x::R)) (hp:p≤s.size): ∃p' t,Tat s p 1 ⟨#[x]⟩ R p' t:=
 aw1 (a:= [x]) hg.all hd hp (aW4 ⟨by have:=hx.1;omega,by have:=hx.2;omega,by rintro rfl;exact absurd hx (by decide),by rintro rfl;exact absurd hx (by decide)⟩) (fun _ _=>bi7 (a:= []) hx (bq6 hx) (by simp) hl.1 hl.2)
theorem an4 {gap:List UInt8} (hg:GapC gap) (hx:x=40∨x=41∨x=44∨x=91∨x=93) (hd:s.data.toList.drop p=gap++(x::R)) (hp:p≤s.size): ∃p' t,Tat s p 5 ⟨#[x]⟩ R p' t:=
 aw1 (a:= [x]) hg.all hd hp (by rcases hx with rfl|rfl|rfl|rfl|rfl<;>exact aW4 (by decide)) (fun _ _=>by rcases hx with rfl|rfl|rfl|rfl|rfl<;>exact aG7 (by decide) (by decide) ((bG7 (by decide)).trans rfl) (show(1:Nat)≠0 by decide))
theorem bb6 {gap:List UInt8} (hg:GapC gap) (hd:s.data.toList.drop p=gap++(43::32::R)) (hp:p≤s.size): ∃p' t,Tat s p 5 ⟨#[43]⟩ (32::R) p' t:=
 aw1 (a:= [43]) hg.all hd hp (aW4 (by decide)) (fun _ _=>aG7 (by decide) (by decide) ((bG7 (by decide)).trans rfl) (show(1:Nat)≠0 by decide))
theorem nm_l {z:ByteArray} (h:Tat s p 1 z R q t) (hd:(ak3 z resW||decide (z=⟨#[97,119,97,105,116]⟩)||decide (z=⟨#[97,115,121,110,99]⟩)||Lib.hasPrefix z.data.toList [47])=false):Nm t:=by
 obtain rfl:=h.text
 rw [Bool.or_eq_false_iff,Bool.or_eq_false_iff,Bool.or_eq_false_iff,decide_eq_false_iff_not,decide_eq_false_iff_not] at hd
 exact⟨h.kind,hd.1.1.1,hd.1.1.2,hd.1.2,hd.2⟩
theorem aK7 {F:Nat} {N:Nd} (hs:Sees s 2 p t) (hf:Ufn t) (hq:s.data.toList.drop q=R) (hqs:q≤s.size) (hb: ∀u,Sees s 1 q u→punctT u ⟨#[61,62]⟩=false→Bas s m (F+1) t n q u 3890) (hN:ab1 n=N) (h22:n.kind≠22) (h18:n.kind≠18) (ha: ¬(n.kind=1∧n.text=⟨#[97,115,121,110,99]⟩)) (hp:ad9 n=true) (hz:aa0 n≤12):Pc s m (F+3) p R N:=
 ⟨t,n,q,hs,hf,hq,hqs,fun u hu he har=>ai8 ((hb u hu har).mono (by decide)) hf h22 ha he,hN,h22,h18,hp,hz⟩
def Ac (s:ByteArray) (m:Bool) (F:Nat) (p:Nat) (x:UInt8) (r:List UInt8) (N:Nd) (B:Int) (Z:Nat):Prop:=
 ∃v k u,∃q q':Nat,Sees s 2 p v∧(∃v',Sees s 1 p v'∧punctT v' ⟨#[61,62]⟩=false)∧Ufn v∧(x=41∨as7 v=false)∧Tat s q 5 ⟨#[x]⟩ r q' u∧Asg s m F v k q u B∧ab1 k=N∧k.kind≠18∧k.till=(q:Int)∧ad9 k=true∧aa0 k≤Z
theorem bl8 {F Z q':Nat} {N:Nd} (hs:Sees s 2 p t) (hs1: ∃v',Sees s 1 p v'∧punctT v' ⟨#[61,62]⟩=false) (hf:Ufn t) (hsl:x=41∨as7 t=false) (hv:Sees s 1 t.till v) (hvr:punctT v ⟨#[61,62]⟩=false) (hu:Tat s q 5 ⟨#[x]⟩ r q' u) (hx:x=41∨x=44∨x=93) (hB:B≤3990) (hb:Sees s 1 q u→punctT u ⟨#[61,62]⟩=false→Bas s m (F+1) t n q u (B+1)) (hN:ab1 n=N) (h22:n.kind≠22) (h18:n.kind≠18) (ha: ¬(n.kind=1∧n.text=⟨#[97,115,121,110,99]⟩)) (hnt:n.till=(q:Int)) (hp:ad9 n=true) (hz:aa0 n≤Z):Ac s m (F+7) p x r N B Z:=by
 have hus:=hu.sees 1 (.inl rfl)
 have hc:=bd2 hu.opn hx
 have hasg:=bH8 (F:=F+2) (ai8 (hb hus hc.arr) hf h22 ha hc.stp.e) hf h22 hc hv hvr (by omega)
 rw [Int.add_sub_cancel] at hasg
 exact⟨t,n,u,q,q',hs,hs1,hf,hsl,hu,hasg,hN,h18,hnt,hp,hz⟩
theorem aP2 {x:UInt8} (hx:x=41∨x=44∨x=93) (hd:s.data.toList.drop q=x::r) (hqs:q≤s.size): ∃q' u,Tat s q 5 ⟨#[x]⟩ r q' u:=
 an4 (gap:= []) (.inl rfl) (by rcases hx with h|h|h<;>simp [h]) hd hqs
theorem Ufn.pn1 {k:Int} {y:ByteArray} {L:List UInt8} (h:Tat s p k y L p' t) (hk:k≠5):punctT t ⟨#[61,62]⟩=false:=ae7 (by rw [h.kind];exact hk)
theorem bl9 {F Z:Nat} {k:Int} {y:ByteArray} {N:Nd} (ht:Tat s p k y (x::r) q t) (hk:k≠5) (hf:Ufn t) (hsl:x=41∨as7 t=false) (hx:x=41∨x=44∨x=93) (hB:B≤3990) (hb: ∀u,Sees s 1 t.till u→Bas s m (F+1) t n t.till u (B+1)) (hN:ab1 n=N) (h22:n.kind≠22) (h18:n.kind≠18) (ha: ¬(n.kind=1∧n.text=⟨#[97,115,121,110,99]⟩)) (hnt:n.till=t.till) (hp:ad9 n=true) (hz:aa0 n≤Z):Ac s m (F+7) p x r N B Z:=by
 obtain⟨q',u,hu⟩:=aP2 hx ht.rest ht.le
 have hus:=hu.sees 1 (.inl rfl)
 rw [ht.till] at hb hnt
 exact bl8 (ht.sees 2 (.inr rfl)) ⟨t,ht.sees 1 (.inl rfl),Ufn.pn1 ht hk⟩ hf hsl (by rw [ht.till];exact hus) (bd2 hu.opn hx).arr hu hx hB (fun h _=>hb u h) hN h22 h18 ha hnt hp hz
theorem bx2 {N:Nd} {y z:Int} (h:ab1 k=N):ab1 (.mk 26 ⟨#[]⟩ [k] y z)=N:=by
 rw [ab1,if_pos rfl]
 exact h
theorem av7 {F Z:Nat} {N:Nd} {L:List UInt8} (ht:Tat s p 5 ⟨#[40]⟩ L p' t) (h:Ac s m F p' 41 R N B Z):
  ∃n,∃q:Nat,s.data.toList.drop q=R∧q≤s.size∧(∀w,Sees s 1 q w→punctT w ⟨#[61,62]⟩=false→Bas s m (F+5) t n q w B)∧ab1 n=N∧n.kind=26∧n.till=(q:Int)∧ad9 n=true∧aa0 n≤Z+1:=by
 obtain⟨v,k,u,q0,q,h1,_,h2,_,h3,h4,h5,h6,h7,h8,h9⟩:=h
 have h3t:=h3.till
 refine⟨.mk 26 ⟨#[]⟩ [k] t.from' u.till,q,h3.rest,h3.le,fun w hw hwa=> ?_,bx2 h5,rfl,h3t,?_,?_⟩
 ·have:=bH9 ht.opn (by rw [ht.till];exact h1) h2 h4 h6 h7 (h3.sees 1 (.inl rfl)) h3.opn (by rw [h3t];exact hw) hwa
  rw [h3t] at this⊢
  exact this
 ·rw [ad9,ag5,ag5,h8]
  rfl
 ·rw [aa0,aa8,aa8]
  omega
theorem bP0 {F Z:Nat} {N:Nd} {L:List UInt8} (ht:Tat s p 5 ⟨#[40]⟩ L p' t) (h:Ac s m F p' 41 (x::r) N (B+1) Z) (hx:x=41∨x=44∨x=93) (hB:B≤3990):Ac s m (F+11) p x r N B (Z+1):=by
 have h0:=h
 obtain⟨_,_,_,_,_,_,⟨v',hv1,hv2⟩,_⟩:=h0
 obtain⟨n,q,h1,h2,h3,h4,h5,h6,h7,h8⟩:=av7 ht h
 obtain⟨q',u,hu⟩:=aP2 hx h1 h2
 exact bl8 (F:=F+4) (ht.sees 2 (.inr rfl)) ⟨t,ht.sees 1 (.inl rfl),ht.opn.no (by decide)⟩ (Ufn.opn (.inl rfl) ht.opn) (.inr (ht.opn.slash (by decide))) (by rw [ht.till];exact hv1) hv2 hu hx hB (fun ha hb=>h3 u ha hb) h4 (by rw [h5];decide) (by rw [h5];decide) (by rw [h5];simp) h6 h7 h8
theorem bS1 {F Z:Nat} {N:Nd} {L:List UInt8} (ht:Tat s p 5 ⟨#[40]⟩ L p' t) (h:Ac s m F p' 41 R N 3890 Z) (hZ:Z≤11):Pc s m (F+7) p R N:=by
 obtain⟨n,q,h1,h2,h3,h4,h5,_,h6,h7⟩:=av7 ht h
 exact aK7 (F:=F+4) (ht.sees 2 (.inr rfl)) (Ufn.opn (.inl rfl) ht.opn) h1 h2 h3 h4 (by rw [h5];decide) (by rw [h5];decide) (by rw [h5];simp) h6 (by omega)
end
section
variable {s:ByteArray} {p:Nat} {gap R l:List UInt8} {q:UInt8} {b:List UInt8}
theorem bH2 {e:UInt8} (hq:q=39∨q=34) (he:e≠13) (hb: ∀c ∈ b,c≠q∧c≠10∧c≠13∧c≠92):sc q ((92::e::b)++q::l)=(92::e::b).length:=by
 show sc q (92::e::(b++q::l))=_
 rw [aH1,if_neg (by rcases hq with rfl|rfl<;>decide),if_pos rfl,if_neg (by rw [ae0 he];decide)]
 show 2+sc q (b++q::l)=_
 rw [aU1 q b l hb]
 simp only [List.length_cons]
 omega
theorem aU2 (hq:q=39∨q=34) (hg:GapC gap) (hb:sc q (b++q::R)=b.length) (hs:strC (q::(b++ [q]))=(true,0)) (hd:s.data.toList.drop p=gap++((q::(b++ [q]))++R)) (hp:p≤s.size): ∃p' t,Tat s p 4 ⟨(q::(b++ [q])).toArray⟩ R p' t:=by
 refine aw1 hg.all hd hp (aW4 (by rcases hq with rfl|rfl<;>decide)) (fun g _=> ?_)
 have e:(q::(b++ [q]))++R=q::(b++q::R):=by simp
 have e1:txtL (q::(b++q::R))=2+b.length:=by
  show(if sc q (b++q::R)<(b++q::R).length∧((b++q::R).drop (sc q (b++q::R))).head? =some q then 2+sc q (b++q::R) else min (1+sc q (b++q::R)) ((b++q::R).length+1))=_
  rw [hb,if_pos ⟨by simp,by simp⟩]
 have e2:(q::(b++q::R)).take (2+b.length)=q::(b++ [q]):=by
  rw [show 2+b.length=(b.length+1)+1 by omega,List.take_succ_cons,List.take_append]
  simp
  exact List.take_of_length_le (by omega)
 have h:txt (q::(b++q::R))= .fine 4 (b.length+2):=by
  unfold txt
  rw [e1,e2,hs,if_pos rfl,Nat.add_comm]
 rw [e]
 unfold af8
 have hn: ∀d:UInt8,d≠39→d≠34→q≠d:=by rcases hq with rfl|rfl<;>intro d h1 h2<;>exact fun e=>by subst e;contradiction
 have hd:ai9 (q::(b++q::R))=false:=by rcases hq with rfl|rfl<;>rfl
 rw [if_neg (by simp),if_neg (by rw [ae0 (hn _ (by decide) (by decide))];decide),if_neg (by rw [ae0 (hn _ (by decide) (by decide))];decide),if_neg (by rw [hd,ae0 (hn 46 (by decide) (by decide))];simp),if_pos (by rcases hq with rfl|rfl<;>simp [Lib.hasPrefix]),h]
 simp
theorem bH1:Ink0 (47::102::l):=by
 refine⟨by unfold aq9;rw [ad8 _ _ (by decide)];kernel_rfl,fun p=> ?_⟩
 unfold ag7
 rw [if_neg (by simp [Lib.hasPrefix]),if_neg (by simp [Lib.hasPrefix]),if_neg (by simp [Lib.hasPrefix])]
theorem bT1 (hR:al4 false R=false∧0≤(nx R).2):af8 2 ([47,102,47]++R)= .fine 6 ([47,102,47]:List UInt8).length:=by
 have h1:rgx true false (102::47::R)= .fine 2 false:=by
  rw [aO4,ad8 102 _ (by decide),if_neg (by rintro(h|⟨_,h⟩|⟨_,h|h⟩);exact absurd h (by decide);exact absurd h (by decide);exact absurd h (by decide);exact absurd h (by decide)),if_neg (by rintro⟨h,_⟩;exact absurd h (by decide)),if_neg (by rintro⟨h,_⟩;exact absurd h (by decide)),show escC (((102:UInt8).toNat:Nat):Int)=0 from rfl,List.drop_zero,ad8 102 _ (by decide),if_neg (by decide)]
  have h2:rgx false false (47::R)= .fine 1 false:=by
   rw [aO4,ad8 47 _ (by decide),if_neg (by rintro(h|⟨_,h⟩|⟨h,_⟩);exact absurd h (by decide);exact absurd h (by decide);cases h),if_pos ⟨rfl,rfl⟩,show(47::R).drop 1=R from rfl,ay0 hR.1]
  show(rgx false false (47::R)).shift _=_
  rw [h2]
  rfl
 show af8 2 (47::102::47::R)=_
 unfold af8
 have hp: ∀c:UInt8,c≠47→Lib.hasPrefix (47::102::47::R) [c]=false:=fun c h=>ae0 (fun e=>h e.symm)
 rw [if_neg (by simp),if_neg (by rw [hp _ (by decide)];decide),if_neg (by rw [hp _ (by decide)];decide),if_neg (by rw [hp _ (by decide)];rintro(h|⟨h,_⟩)<;>cases h),if_neg (by rw [hp _ (by decide),hp _ (by decide)];decide),if_pos ⟨rfl,rfl⟩]
 show rgTk _ (rgx true false (102::47::R))=_
 rw [h1]
 show aft (47::102::47::R) 6 (1+2)=_
 unfold aft
 rw [if_neg (by show¬(nx R).2<0;omega)]
 rfl
theorem bU8:af8 1 (47::102::l)= .fine 5 1:=by
 have hp: ∀c:UInt8,c≠47→Lib.hasPrefix (47::102::l) [c]=false:=fun c h=>ae0 (fun e=>h e.symm)
 have hname:am1 false (47::102::l)=0:=by
  unfold am1
  rw [ad8 _ _ (by decide),if_neg]
  rintro⟨_,h⟩
  simp only at h
  rw [show ad0 (((47:UInt8).toNat:Nat):Int)=false by kernel_rfl] at h
  cases h
 have hpct:pct 1 (47::102::l)=1:=by
  unfold pct
  rw [if_neg (by simp [Lib.hasPrefix]),if_pos ⟨rfl,by simp [Lib.hasPrefix]⟩]
 unfold af8
 rw [if_neg (by simp),if_neg (by rw [hp _ (by decide)];decide),if_neg (by rw [hp _ (by decide)];decide),if_neg (by rw [hp _ (by decide)];rintro(h|⟨h,_⟩)<;>cases h),if_neg (by rw [hp _ (by decide),hp _ (by decide)];decide),if_neg (by rintro⟨h,_⟩;exact absurd h (by decide)),if_neg (by rw [hname];simp),hpct,if_pos (by decide)]
theorem bu3 (hg:GapC gap) (hR:al4 false R=false∧0≤(nx R).2) (hd:s.data.toList.drop p=gap++([47,102,47]++R)) (hp:p≤s.size): ∃p' t,t.kind=6∧t.text=⟨#[47,102,47]⟩∧t.till=((p':Nat):Int)∧Sees s 2 p t∧s.data.toList.drop p'=R∧p'≤s.size∧∃v,Sees s 1 p v∧punctT v ⟨#[61,62]⟩=false:=by
 obtain⟨line,hb⟩:=aV3 gap p false hg.all hd
 have hq:=aL6 hd
 have hf:=aH7 hd hp
 have hb2:btw s p false= .fine (p+gap.length) line []:=hb.trans (aV4 hq hf ⟨(bH1 (l:=47::R)).1,(bH1 (l:=47::R)).2 _⟩)
 refine⟨p+gap.length+3,⟨6,⟨#[47,102,47]⟩,((p+gap.length:Nat):Int),((p+gap.length+3:Nat):Int),line⟩,rfl,rfl,rfl,⟨by omega,by omega,p+gap.length,3,?_,?_⟩,aL6 hq,aH7 hq hf,⟨5,⟨#[47]⟩,((p+gap.length:Nat):Int),((p+gap.length+1:Nat):Int),line⟩,⟨by omega,by omega,p+gap.length,1,?_,?_⟩,rfl⟩
 ·have ht2:=bT1 hR
  rw [←hq] at ht2
  rw [Int.toNat_natCast]
  unfold nxt tokT
  rw [if_neg (by rintro(h|h|⟨h,_⟩)<;>omega),if_neg (by decide),hb2]
  simp only
  rw [if_neg (by decide),if_neg (by decide),if_neg (by decide),ht2]
  rfl
 ·unfold tkOf
  have h:=aD7 hq
  rw [show ([47,102,47]:List UInt8).length=3 from rfl] at h
  rw [h]
 ·have ht2:af8 1 ([47,102,47]++R)= .fine 5 1:=bU8 (l:=47::R)
  rw [←hq] at ht2
  rw [Int.toNat_natCast]
  unfold nxt tokT
  rw [if_neg (by rintro(h|h|⟨h,_⟩)<;>omega),if_neg (by decide),hb2]
  simp only
  rw [if_neg (by decide),if_neg (by decide),if_neg (by decide),ht2]
 ·unfold tkOf
  have h:=aD7 (a:= [47]) (l:=102::47::R) hq
  rw [show ([47]:List UInt8).length=1 from rfl] at h
  rw [h]
end
section
variable {s:ByteArray} {m:Bool} {p:Nat} {gap R r:List UInt8} {x:UInt8}
theorem bR2 (hx:x=32∨x=40∨x=41∨x=44∨x=93):al4 false (x::r)=false∧0≤(nx (x::r)).2:=aN2 hx r
theorem aE0 {F:Nat} {c:UInt8} {B:Int} (hB:B≤3990) (hg:GapC gap) (hc:low c) (hn: ∀ {p p':Nat} {t:Tk} {L:List UInt8},Tat s p 1 ⟨#[c]⟩ L p' t→Nm t) (hx:x=41∨x=44∨x=93) (hd:s.data.toList.drop p=gap++(c::x::r)) (hp:p≤s.size):Ac s m (F+9) p x r (lfN 1 ⟨#[c]⟩) B 1:=by
 obtain⟨q,t,ht⟩:=aP3 hg hc (bR2 (by rcases hx with h|h|h<;>simp [h])) hd hp
 have h1:=hn ht
 exact bl9 (F:=F+2) ht (by decide) (Ufn.nmT h1) (.inr h1.sl) hx hB (fun u hu=>bc6 F h1 hu) ((al8 1 t (by decide)).trans (by rw [ht.text])) (show(1:Int)≠22 by decide) (show(1:Int)≠18 by decide) (by rintro⟨_,h⟩;have:=h1.asy;exact absurd h this) rfl rfl (by show 1+0≤1;decide)
theorem aW6 {k:Int} {y:ByteArray} {t:Tk} {L:List UInt8} {p':Nat} {F:Nat} {u:Tk} {B:Int} (ht:Tat s p k y L p' t) (hk:k=3∨k=4) (hu:Sees s 1 t.till u):Bas s m (F+2) t (ah2 k t) t.till u B:=by
 have h:=bx3 (m:=m) (B:=B) F (by rw [ht.kind];exact hk) hu
 rw [ht.kind] at h
 exact h
theorem bq0 {k:Int} (t:Tk) (hk:k=3∨k=4):ad9 (ah2 k t)=true:=by rcases hk with rfl|rfl<;>rfl
theorem aG4 {k:Int} {y:ByteArray} {t:Tk} {q F:Nat} (ht:Tat s p k y R q t) (hk:k=3∨k=4):Pc s m (F+4) p R (lfN k y):=
 aK7 (F:=F+1) (ht.sees 2 (.inr rfl)) (Ufn.lit (by rw [ht.kind];omega)) ht.rest ht.le (fun u hu _=>by have:=aW6 (m:=m) (F:=F) (B:=3890) ht hk (u:=u) (by rw [ht.till];exact hu);rw [ht.till] at this;exact this) ((al8 k t (by omega)).trans (by rw [ht.text])) (by show k≠22;omega) (by show k≠18;omega) (by rintro⟨h,_⟩;have:k=1:=h;omega) (bq0 t hk) (by show 1+0≤12;decide)
theorem aM1 {k:Int} {y:ByteArray} {t:Tk} {q F:Nat} {B:Int} (hB:B≤3990) (ht:Tat s p k y (x::r) q t) (hk:k=3∨k=4) (hsl:x=41∨Lib.hasPrefix y.data.toList [47]=false) (hx:x=41∨x=44∨x=93):Ac s m (F+8) p x r (lfN k y) B 1:=
 bl9 (F:=F+1) ht (by omega) (Ufn.lit (by rw [ht.kind];omega)) (hsl.imp id fun h=>by unfold as7;rw [ht.text];exact h) hx hB (fun u hu=>aW6 ht hk hu) ((al8 k t (by omega)).trans (by rw [ht.text])) (by show k≠22;omega) (by show k≠18;omega) (by rintro⟨h,_⟩;have:k=1:=h;omega) rfl (bq0 t hk) (by show 1+0≤1;decide)
theorem bw1 {t u:Tk} {L:List UInt8} {p' F:Nat} {B:Int} (ht:Tat s p 7 ⟨#[96,101,96]⟩ L p' t) (hu:Sees s 1 t.till u):Bas s m (F+4) t (.mk 8 ⟨#[]⟩ [ay4 t 1] t.from' t.till) t.till u B:=
 bI0 F ht.kind (by rw [ht.text];decide) (by rw [show t.text.extract 1 (t.text.size - 1)=⟨#[101]⟩ by rw [ht.text];rfl];decide) hu
theorem bf7 {t:Tk} {L:List UInt8} {p':Nat} (ht:Tat s p 7 ⟨#[96,101,96]⟩ L p' t):ab1 (.mk 8 ⟨#[]⟩ [ay4 t 1] t.from' t.till)=oneN 5:=by
 have hx:t.text.extract 1 (t.text.size - 1)=⟨#[101]⟩:=by rw [ht.text];rfl
 rw [ab1,if_neg (by decide),af2,af2]
 unfold ay4
 rw [ab1,if_neg (by decide),af2,hx]
 rfl
theorem bf8 (t:Tk):ad9 (.mk 8 ⟨#[]⟩ [ay4 t 1] t.from' t.till)=true∧aa0 (.mk 8 ⟨#[]⟩ [ay4 t 1] t.from' t.till)≤2:=by
 refine⟨rfl,?_⟩
 unfold ay4
 rw [aa0,aa8,aa8,aa0,aa8]
 decide
theorem bS4 {F:Nat} (hg:GapC gap) (hd:s.data.toList.drop p=gap++(96::101::96::R)) (hp:p≤s.size):Pc s m (F+6) p R (oneN 5):=by
 obtain⟨q,t,ht⟩:=bw0 hg hd hp
 refine aK7 (F:=F+3) (n:= .mk 8 ⟨#[]⟩ [ay4 t 1] t.from' t.till) (ht.sees 2 (.inr rfl)) (Ufn.lit (by rw [ht.kind];decide)) ht.rest ht.le (fun u hu _=> ?_) (bf7 ht) (show(8:Int)≠22 by decide) (show(8:Int)≠18 by decide) (by rintro⟨h,_⟩;exact absurd (show(8:Int)=1 from h) (by decide)) (bf8 t).1 (Nat.le_trans (bf8 t).2 (by decide))
 have:=bw1 (m:=m) (F:=F) (B:=3890) ht (u:=u) (by rw [ht.till];exact hu)
 rw [ht.till] at this⊢
 exact this
theorem bP2 {F:Nat} {B:Int} (hB:B≤3990) (hg:GapC gap) (hd:s.data.toList.drop p=gap++(96::101::96::41::r)) (hp:p≤s.size):Ac s m (F+10) p 41 r (oneN 5) B 2:=by
 obtain⟨q,t,ht⟩:=bw0 hg hd hp
 exact bl9 (F:=F+3) (n:= .mk 8 ⟨#[]⟩ [ay4 t 1] t.from' t.till) ht (by decide) (Ufn.lit (by rw [ht.kind];decide)) (.inl rfl) (.inl rfl) hB (fun u hu=>bw1 ht hu) (bf7 ht) (show(8:Int)≠22 by decide) (show(8:Int)≠18 by decide) (by rintro⟨h,_⟩;exact absurd (show(8:Int)=1 from h) (by decide)) rfl (bf8 t).1 (bf8 t).2
theorem bu2 {t:Tk} (h:t.text=⟨#[47,102,47]⟩):ab1 (ah2 5 t)=oneN 6:=(al8 5 t (by decide)).trans (by rw [h];rfl)
theorem bU6 {F:Nat} (hg:GapC gap) (hR:StP R) (hd:s.data.toList.drop p=gap++([47,102,47]++R)) (hp:p≤s.size):Pc s m (F+4) p R (oneN 6):=by
 obtain⟨q,t,h1,h2,h3,h4,h5,h6,_⟩:=bu3 hg (aW3 hR) hd hp
 refine aK7 (F:=F+1) (n:=ah2 5 t) h4 (Ufn.lit (by omega)) h5 h6 (fun u hu _=> ?_) (bu2 h2) (show(5:Int)≠22 by decide) (show(5:Int)≠18 by decide) (by rintro⟨h,_⟩;exact absurd (show(5:Int)=1 from h) (by decide)) rfl (by show 1+0≤12;decide)
 have:=bE7 (m:=m) (B:=3890) F h1 (u:=u) (by rw [h3];exact hu)
 rw [h3] at this
 exact this
theorem bU1 {F:Nat} {B:Int} (hB:B≤3990) (hg:GapC gap) (hd:s.data.toList.drop p=gap++([47,102,47]++41::r)) (hp:p≤s.size):Ac s m (F+8) p 41 r (oneN 6) B 1:=by
 obtain⟨q,t,h1,h2,h3,h4,h5,h6,h7⟩:=bu3 hg (aN2 (.inr (.inr (.inl rfl))) r) hd hp
 obtain⟨q',u,hu⟩:=aP2 (.inl rfl) h5 h6
 have hus:=hu.sees 1 (.inl rfl)
 refine bl8 (F:=F+1) (n:=ah2 5 t) h4 h7 (Ufn.lit (by omega)) (.inl rfl) (v:=u) (by rw [h3];exact hus) (bd2 hu.opn (.inl rfl)).arr hu (.inl rfl) hB (fun h _=> ?_) (bu2 h2) (show(5:Int)≠22 by decide) (show(5:Int)≠18 by decide) (by rintro⟨h,_⟩;exact absurd (show(5:Int)=1 from h) (by decide)) h3 rfl (by show 1+0≤1;decide)
 have:=bE7 (m:=m) (B:=B+1) F h1 (u:=u) (by rw [h3];exact h)
 rw [h3] at this
 exact this
theorem bG5 {F p':Nat} {t:Tk} {L r1:List UInt8} {N1 N2:Nd} (ht:Tat s p 5 ⟨#[91]⟩ L p' t) (h1:Ac s m (F+2) p' 44 r1 N1 3890 5) (h2: ∀p2,s.data.toList.drop p2=r1→p2≤s.size→Ac s m (F+2) p2 93 R N2 3890 5):Pc s m (F+8) p R (.mk 11 ⟨#[]⟩ [N1,N2] 0 0):=by
 obtain⟨v,k,u,q0,q,a1,_,a2,a3,a4,a5,a6,a7,a8,a9,a10⟩:=h1
 obtain⟨v2,k2,u2,q02,q2,b1,_,b2,b3,b4,b5,b6,b7,b8,b9,b10⟩:=h2 q a4.rest a4.le
 have e2:=b4.till
 refine aK7 (F:=F+5) (n:= .mk 11 ⟨#[]⟩ [k,k2] t.from' u2.till) (ht.sees 2 (.inr rfl)) (Ufn.opn (.inr rfl) ht.opn) b4.rest b4.le (fun w hw _=> ?_) ?_ (by show(11:Int)≠22;decide) (by show(11:Int)≠18;decide) (by rintro⟨h,_⟩;exact absurd (show(11:Int)=1 from h) (by decide)) ?_ ?_
 ·have:=bI1 ht.opn (by rw [ht.till];exact a1) (a3.resolve_left (by decide)) a2 a5 a7 a4.opn (by rw [a4.till];exact b1) (b3.resolve_left (by decide)) b2 b5 b7 b4.opn (w:=w) (by rw [e2];exact hw)
  rw [e2] at this⊢
  exact this
 ·rw [ab1,if_neg (by decide),af2,af2,af2,a6,b6]
 ·rw [ad9,ag5,ag5,ag5,a9,b9]
  rfl
 ·rw [aa0,aa8,aa8,aa8]
  omega
theorem bs7 {F q:Nat} {t:Tk} {n N N':Nd} {L:List UInt8} (hs:Sees s 2 p t) (hf:Ufn t) (hq:s.data.toList.drop q=40::L) (hqs:q≤s.size) (hb: ∀u,Sees s 1 q u→punctT u ⟨#[61,62]⟩=false→Bas s m (F+4) t n q u 3890) (hN:ab1 n=N) (h22:n.kind≠22) (ha: ¬(n.kind=1∧n.text=⟨#[97,115,121,110,99]⟩)) (hp:ad9 n=true) (hz:aa0 n≤5) (h: ∀p',s.data.toList.drop p'=L→p'≤s.size→Ac s m F p' 41 R N' 3890 5):
  Pc s m (F+6) p R (.mk 35 ⟨#[]⟩ [N,.mk 36 ⟨#[]⟩ [N'] 0 0] 0 0):=by
 obtain⟨p',o,ho⟩:=an4 (gap:= []) (.inl rfl) (.inl rfl) hq hqs
 obtain⟨v,k,u,q0,q',a1,_,a2,a3,a4,a5,a6,a7,a8,a9,a10⟩:=h p' ho.rest ho.le
 have e2:=a4.till
 refine⟨t,.mk 35 ⟨#[]⟩ [n,.mk 36 ⟨#[]⟩ [k] o.from' u.till] n.from' u.till,q',hs,hf,a4.rest,a4.le,fun w hw he _=> ?_,?_,by show(35:Int)≠22;decide,by show(35:Int)≠18;decide,?_,?_⟩
 ·have:=bD7 (F:=F) (hb o (ho.sees 1 (.inl rfl)) (ho.opn.no (by decide))) hf h22 ha ho.opn (by rw [ho.till];exact a1) a2 a5 a7 a4.opn (w:=w) (by rw [e2];exact hw) he
  rw [e2] at this⊢
  exact this.mono (by decide)
 ·rw [ab1,if_neg (by decide),af2,af2,af2,hN,ab1,if_neg (by decide),af2,af2,a6]
 ·rw [ad9,ag5,ag5,ag5,hp,ad9,ag5,ag5,a9]
  rfl
 ·rw [aa0,aa8,aa8,aa8,aa0,aa8,aa8]
  omega
theorem be7 {F:Nat} {N:Nd} {Z:Nat} {L:List UInt8} (hg:GapC gap) (hd:s.data.toList.drop p=gap++(40::L)) (hp:p≤s.size) (hx:x=41∨x=44∨x=93) {B:Int} (hB:B≤3990) (h: ∀p',s.data.toList.drop p'=L→p'≤s.size→Ac s m F p' 41 (x::r) N (B+1) Z):Ac s m (F+11) p x r N B (Z+1):=by
 obtain⟨p',t,ht⟩:=an4 hg (.inl rfl) hd hp
 exact bP0 ht (h p' ht.rest ht.le) hx hB
theorem aO0 {F:Nat} {N:Nd} {Z:Nat} {L:List UInt8} (hg:GapC gap) (hd:s.data.toList.drop p=gap++(40::L)) (hp:p≤s.size) (hZ:Z≤11) (h: ∀p',s.data.toList.drop p'=L→p'≤s.size→Ac s m F p' 41 R N 3890 Z):Pc s m (F+7) p R N:=by
 obtain⟨p',t,ht⟩:=an4 hg (.inl rfl) hd hp
 exact bS1 ht (h p' ht.rest ht.le) hZ
theorem g0:GapC []:= .inl rfl
theorem Ac.mono {F Z Z':Nat} {N:Nd} {B B':Int} (h:Ac s m F p x r N B Z) (hB:B'≤B) (hZ:Z≤Z'):Ac s m F p x r N B' Z':=by
 obtain⟨v,k,u,q0,q,a1,a0,a2,a3,a4,a5,a6,a7,a8,a9,a10⟩:=h
 exact⟨v,k,u,q0,q,a1,a0,a2,a3,a4,a5.mono hB,a6,a7,a8,a9,by omega⟩
theorem bS3 {F:Nat} (k:Nat) (hg:GapC gap) (hR:StP R) (hd:s.data.toList.drop p=gap++(oneP k++R)) (hp:p≤s.size):Pc s m (F+34) p R (oneN k):=by
 match k with
 |0=>
  obtain⟨q,t,ht⟩:=bv9 (w:= [49]) (pt:=true) (f:= [48]) (c:=49) (d:= [46,48]) hg ⟨by decide,by unfold DigL;decide,.inr (by decide),by unfold DigL;decide,fun h=>by cases h⟩ rfl (by decide) hR.num hd hp
  exact aG4 ht (.inl rfl)
 |1=>
  obtain⟨q,t,ht⟩:=aU2 (q:=39) (b:= [97]) (.inl rfl) hg (aU1 _ _ _ (by decide)) (by kernel_rfl) hd hp
  exact aG4 ht (.inr rfl)
 |2=>exact aO0 (Z:=1) hg hd hp (by decide) fun p' h1 h2=>aE0 (F:=F+18) (by decide) g0 (by decide) (fun h=>nm_l h (by decide)) (.inl rfl) h1 h2
 |3=>exact aO0 (Z:=2) hg hd hp (by decide) fun p' h1 h2=>be7 (F:=F+16) g0 h1 h2 (.inl rfl) (by decide) fun p' h1 h2=>aE0 (F:=F+7) (by decide) g0 (by decide) (fun h=>nm_l h (by decide)) (.inl rfl) h1 h2
 |4=>
  obtain⟨q,t,ht⟩:=an4 hg (.inr (.inr (.inr (.inl rfl)))) hd hp
  refine bG5 (F:=F+26) ht ((aE0 (F:=F+19) (by decide) g0 (by decide) (fun h=>nm_l h (by decide)) (.inr (.inl rfl)) ht.rest ht.le).mono (Int.le_refl _) (by decide)) fun p2 h1 h2=> ?_
  obtain⟨q,t,ht⟩:=bb5 (x:=120) (h:= [48,102]) (R:=93::R) (gap:= [32]) (.inr rfl) (.inl rfl) (by decide) (by decide) (.of _ (by decide)) h1 h2
  exact(aM1 (F:=F+20) (by decide) ht (.inl rfl) (.inr rfl) (.inr (.inr rfl))).mono (Int.le_refl _) (by decide)
 |5=>exact bS4 hg hd hp
 |6=>exact bU6 hg hR hd hp
 |k+7=>
  obtain⟨q,t,ht⟩:=aP3 (x:=102) hg (by decide) (aN2 (x:=40) (.inr (.inl rfl)) _) hd hp
  have h1:Nm t:=nm_l ht (by decide)
  refine bs7 (F:=F+28) (n:=ah2 1 t) (ht.sees 2 (.inr rfl)) (Ufn.nmT h1) ht.rest ht.le (fun u hu _=> ?_) ((al8 1 t (by decide)).trans (by rw [ht.text])) (show(1:Int)≠22 by decide) (by rintro⟨_,h⟩;exact absurd h h1.asy) rfl (by show 1+0≤5;decide) fun p' h1 h2=> ?_
  ·have:=bc6 (m:=m) (B:=3890) (F+29) h1 (u:=u) (by rw [ht.till];exact hu)
   rw [ht.till] at this
   exact this
  ·obtain⟨q,t,ht⟩:=aU2 (q:=39) (b:= [92,117,48,48,52,49]) (R:=41::R) (.inl rfl) g0 (bH2 (.inl rfl) (by decide) (by decide)) (by kernel_rfl) h1 h2
   exact(aM1 (F:=F+20) (by decide) ht (.inr rfl) (.inl rfl) (.inl rfl)).mono (Int.le_refl _) (by decide)
theorem bG6 {F:Nat} (k:Nat) (hg:GapC gap) (hR:StP R) (hd:s.data.toList.drop p=gap++(twoP k++R)) (hp:p≤s.size):Pc s m (F+34) p R (twoN k):=by
 match k with
 |0=>
  obtain⟨q,t,ht⟩:=bv9 (w:= [49]) (pt:=false) (f:= []) (c:=49) (d:= []) hg ⟨by decide,by unfold DigL;decide,.inr (by decide),by unfold DigL;decide,fun _=>rfl⟩ rfl (by decide) hR.num hd hp
  exact aG4 ht (.inl rfl)
 |1=>
  obtain⟨q,t,ht⟩:=aU2 (q:=34) (b:= [92,120,54,49]) (.inr rfl) hg (bH2 (.inr rfl) (by decide) (by decide)) (by kernel_rfl) hd hp
  exact aG4 ht (.inr rfl)
 |2|3=>
  obtain⟨q,t,ht⟩:=aP3 hg (by decide) (aW3 hR) hd hp
  have h1:Nm t:=nm_l ht (by decide)
  refine aK7 (F:=F+31) (n:=ah2 1 t) (ht.sees 2 (.inr rfl)) (Ufn.nmT h1) ht.rest ht.le (fun u hu _=> ?_) ((al8 1 t (by decide)).trans (by rw [ht.text];rfl)) (show(1:Int)≠22 by decide) (show(1:Int)≠18 by decide) (by rintro⟨_,h⟩;exact absurd h h1.asy) rfl (by show 1+0≤12;decide)
  have:=bc6 (m:=m) (B:=3890) (F+29) h1 (u:=u) (by rw [ht.till];exact hu)
  rw [ht.till] at this
  exact this
 |4=>
  obtain⟨q,t,ht⟩:=an4 hg (.inr (.inr (.inr (.inl rfl)))) hd hp
  refine bG5 (F:=F+26) ht ((be7 (F:=F+17) (Z:=1) g0 ht.rest ht.le (.inr (.inl rfl)) (by decide) fun p' h1 h2=>aE0 (F:=F+8) (by decide) g0 (by decide) (fun h=>nm_l h (by decide)) (.inl rfl) h1 h2).mono (Int.le_refl _) (by decide)) fun p2 h1 h2=> ?_
  obtain⟨q,t,ht⟩:=bb5 (x:=88) (h:= [70]) (R:=93::R) (gap:= [32]) (.inr rfl) (.inr rfl) (by decide) (by decide) (.of _ (by decide)) h1 h2
  exact(aM1 (F:=F+20) (by decide) ht (.inl rfl) (.inr rfl) (.inr (.inr rfl))).mono (Int.le_refl _) (by decide)
 |5=>exact aO0 (Z:=2) hg hd hp (by decide) fun p' h1 h2=>bP2 (F:=F+17) (by decide) g0 h1 h2
 |6=>exact aO0 (Z:=1) hg hd hp (by decide) fun p' h1 h2=>bU1 (F:=F+19) (by decide) g0 h1 h2
 |k+7=>
  obtain⟨q,t,ht⟩:=an4 hg (.inl rfl) hd hp
  obtain⟨n,q',a1,a2,a3,a4,a5,_,a6,a7⟩:=av7 (F:=F+27) (Z:=1) (R:=40::40::39::65::39::41::41::R) (m:=m) (N:=lfN 1 ⟨#[102]⟩) (B:=3890) ht (aE0 (F:=F+18) (by decide) g0 (by decide) (fun h=>nm_l h (by decide)) (.inl rfl) ht.rest ht.le)
  refine bs7 (F:=F+28) (ht.sees 2 (.inr rfl)) (Ufn.opn (.inl rfl) ht.opn) a1 a2 a3 a4 (by rw [a5];decide) (by rw [a5];simp) a6 (by omega) fun p' h1 h2=>(be7 (F:=F+17) (Z:=1) g0 h1 h2 (.inl rfl) (by decide) fun p' h1 h2=> ?_).mono (Int.le_refl _) (by decide)
  obtain⟨q,t,ht⟩:=aU2 (q:=39) (b:= [65]) (R:=41::41::R) (.inl rfl) g0 (aU1 _ _ _ (by decide)) (by kernel_rfl) h1 h2
  exact aM1 (F:=F+9) (by decide) ht (.inr rfl) (.inl rfl) (.inl rfl)
end
end
section
open Go.RowKit
def au0 (a b:Nd):Nd:= .mk 29 ⟨#[43]⟩ [a,b] 0 0
def rowT:List (List UInt8 × Nd)→List UInt8
 | []=> []
 |x::xs=>32::43::32::(x.1++rowT xs)
def rowN (a:Nd):List (List UInt8 × Nd)→Nd
 | []=>a
 |x::xs=>rowN (au0 a x.2) xs
section
variable {s:ByteArray} {m:Bool}
def bl5 (s:ByteArray) (m:Bool) (F:Nat) (x:List UInt8 × Nd):Prop:= ∀(p:Nat) (R:List UInt8),StP R→s.data.toList.drop p= [32]++(x.1++R)→p≤s.size→Pc s m F p R x.2
theorem bG9 {E:List UInt8} (hE:StP E): ∀xs,StP (rowT xs++E)
 | []=>hE
 |_::_=> .inr ⟨32,_,rfl,.inl rfl⟩
theorem bt9 {F:Nat} {E:List UInt8} (hES:StP E) (P:Nat→Tk→Prop) (hEnd: ∀q,s.data.toList.drop q=E→q≤s.size→∃u,P q u∧Sees s 1 q u∧Cl3 u): ∀(xs:List (List UInt8 × Nd)),(∀x ∈ xs,bl5 s m F x)→∀(a:Nd) (q:Nat),s.data.toList.drop q=rowT xs++E→q≤s.size→a.kind≠22→a.kind≠18→a.till=(q:Int)→ad9 a=true→
  ∃u0 n u',∃q':Nat,Sees s 1 q u0∧Aft u0∧punctT u0 ⟨#[61,62]⟩=false∧P q' u'∧Cl3 u'∧ab1 n=rowN (ab1 a) xs∧n.kind≠22∧n.kind≠18∧n.till=(q':Int)∧ad9 n=true∧aa0 n≤aa0 a+13*xs.length∧
   ∀(g:Nat) (ne ar:Int),xs.length<g→0≤ne→ne<3880→∃ar2,ae1.opsL s (runQ s m (F+2)) 1 false g a (Zs q u0 1 1 ne ar)= .ok n (Zs q' u' 1 1 ne ar2)
 | [],_,a,q,hd,hq,h22,h18,ht,hp=>by
  obtain⟨u,h1,h2,h3⟩:=hEnd q hd hq
  refine⟨u,a,u,q,h2,.inr h3.stp,h3.arr,h1,h3,rfl,h22,h18,ht,hp,Nat.le_refl _,fun g ne ar hg _ _=> ?_⟩
  obtain⟨g0,rfl⟩: ∃g0,g=g0+1:=⟨g - 1,by omega⟩
  exact⟨ar,bM3 h3.stp⟩
 |x::xs,hx,a,q,hd,hq,h22,h18,ht,hp=>by
  obtain⟨p1,o,ho⟩:=bb6 (gap:= [32]) (R:=x.1++(rowT xs++E)) (.inr rfl) (by rw [hd];simp [rowT]) hq
  obtain⟨t,n1,q1,h1,h2,h3,h4,h5,h6,h7,h8,h9,h10⟩:=hx x (.head _) p1 (rowT xs++E) (bG9 hES xs) ho.rest ho.le
  obtain⟨u0,n,u',q',k1,k2,k3,k4,k5,k6,k7,k8,k9,k10,k11,k12⟩:=bt9 hES P hEnd xs (fun y hy=>hx y (.tail _ hy)) (.mk 29 ⟨#[43]⟩ [a,n1] a.from' (q1:Int)) q1 h3 h4 (show(29:Int)≠22 by decide) (show(29:Int)≠18 by decide) rfl (by rw [ad9,ag5,ag5,ag5,hp,h9];rfl)
  refine⟨o,n,u',q',ho.sees 1 (.inl rfl),.inl ho.opn,ho.opn.no (by decide),k4,k5,?_,k7,k8,k9,k10,?_,fun g ne ar hg h0 hn=> ?_⟩
  ·rw [k6,ab1,if_neg (by decide),af2,af2,af2,h6]
   rfl
  ·rw [aa0,aa8,aa8,aa8] at k11
   rw [List.length_cons]
   omega
  ·rw [List.length_cons] at hg
   obtain⟨g0,rfl⟩: ∃g0,g=g0+1:=⟨g - 1,by omega⟩
   obtain⟨ar1,e1⟩:=bB9 (i:=q) (ar:=ar) (g0:=g0) (x:=a) ho.opn (h5 u0 k1 k2.endy k3) (by rw [ho.till];exact h1) h2.k2 h7 k2 h0 hn
   obtain⟨ar2,e2⟩:=k12 g0 ne ar1 (by omega) h0 hn
   exact⟨ar2,e1.trans e2⟩
theorem bt8 {F:Nat} {E:List UInt8} (hES:StP E) (P:Nat→Tk→Prop) (hEnd: ∀q,s.data.toList.drop q=E→q≤s.size→∃u,P q u∧Sees s 1 q u∧Cl3 u) (xs:List (List UInt8 × Nd)) (hx: ∀x ∈ xs,bl5 s m F x) (hF:xs.length≤F) {t:Tk} {a:Nd} {q:Nat} {B:Int} (hB:B≤3880) (hf:Ufn t) (hd:s.data.toList.drop q=rowT xs++E) (hq:q≤s.size) (h22:a.kind≠22) (h18:a.kind≠18) (ht:a.till=(q:Int)) (hp:ad9 a=true) (hu: ∀u,Sees s 1 q u→Endy u→punctT u ⟨#[61,62]⟩=false→Una s m (F+1) t a q u B):
  ∃n u',∃q':Nat,P q' u'∧Cl3 u'∧ab1 n=rowN (ab1 a) xs∧n.kind≠22∧n.kind≠18∧n.till=(q':Int)∧ad9 n=true∧aa0 n≤aa0 a+13*xs.length∧∀i ne ar:Int,0≤ne→ne<B→∃ar2,runQ s m (F+3) (.binary 1 false) (Zs i t 2 1 ne ar)= .ok n (Zs q' u' 1 1 ne ar2):=by
 obtain⟨u0,n,u',q',k1,k2,k3,k4,k5,k6,k7,k8,k9,k10,k11,k12⟩:=bt9 hES P hEnd xs hx a q hd hq h22 h18 ht hp
 refine⟨n,u',q',k4,k5,k6,k7,k8,k9,k10,k11,fun i ne ar h0 hn=> ?_⟩
 obtain⟨ar1,h2⟩:=hu u0 k1 k2.endy k3 i ne ar h0 hn
 obtain⟨ar2,h3⟩:=k12 (F+2) ne ar1 (by omega) h0 (by omega)
 refine⟨ar2,?_⟩
 show ae1 s (F+2) (runQ s m (F+2)) 1 false _=_
 unfold ae1
 rw [PM.go ((av4 (f:=F+1) _ (ac9 (by decide)) hf.k2).trans h2),if_neg h22]
 exact h3
theorem aO5 {F:Nat} (xs:List (List UInt8 × Nd)) (hx: ∀x ∈ xs,bl5 s false F x) (hF:xs.length≤F) {t v:Tk} {a:Nd} {q:Nat} (hf:Ufn t) (h2:Sees s 2 0 t) (hv:Sees s 1 t.till v) (hvr:punctT v ⟨#[61,62]⟩=false) (hd:s.data.toList.drop q=rowT xs) (hq:q≤s.size) (h22:a.kind≠22) (h18:a.kind≠18) (ht:a.till=(q:Int)) (hp:ad9 a=true) (hz:aa0 a+13*xs.length≤8000) {B:Int} (hB0:1<B) (hB:B≤3880) (hu: ∀u,Sees s 1 q u→Endy u→punctT u ⟨#[61,62]⟩=false→Una s false (F+1) t a q u B):
  ∃n q,aB9 s false (F+6)= .ok n q∧ab1 n=rowN (ab1 a) xs∧aa0 n≤aa0 a+13*xs.length:=by
 obtain⟨n,u',q',k4,k5,k6,k7,k8,k9,k10,k11,k12⟩:=bt8 (m:=false) (E:= []) (.inl rfl) (fun _ u=>u.kind=0∧punctT u ⟨#[44]⟩=false) (fun q h1 h2=>⟨_,⟨rfl,rfl⟩,bf4 (.inl rfl) h1 h2,bI6 rfl⟩) xs hx hF hB hf (by rw [hd,List.append_nil]) hq h22 h18 ht hp hu
 obtain⟨ar2,h3⟩:=k12 0 1 t.from' (by decide) (by omega)
 have ha:runQ s false (F+5) .assign (ps0 false)= .ok n _:=aJ4 (m:=false) (f:=F+4) (ne:=0) (p:=Zs 0 Tk.zero 0 1 0 (-1)) (hf.nm _ (by simp)) (hf.nm _ (by simp)) (ah7 h2) hv hvr (by decide) (by decide) (bF1 h3 k7 k5.q) (aJ5 k7 k5.asg)
 exact⟨n,_,bP8 (aR6 ha k4.2) k4.1 k10 (by omega),k6,k11⟩
theorem bE6 {F p:Nat} {r:List UInt8} (xs:List (List UInt8 × Nd)) (hx: ∀x ∈ xs,bl5 s m F x) (hF:xs.length≤F) {t v:Tk} {a:Nd} {q:Nat} {B:Int} (hB:B+1≤3880) (hs:Sees s 2 p t) (hs1: ∃v',Sees s 1 p v'∧punctT v' ⟨#[61,62]⟩=false) (hf:Ufn t) (hv:Sees s 1 t.till v) (hvr:punctT v ⟨#[61,62]⟩=false) (hd:s.data.toList.drop q=rowT xs++41::r) (hq:q≤s.size) (h22:a.kind≠22) (h18:a.kind≠18) (ht:a.till=(q:Int)) (hp:ad9 a=true) (hu: ∀u,Sees s 1 q u→Endy u→punctT u ⟨#[61,62]⟩=false→Una s m (F+1) t a q u (B+1)):
  Ac s m (F+5) p 41 r (rowN (ab1 a) xs) B (aa0 a+13*xs.length):=by
 obtain⟨n,u',q',⟨q2,k4⟩,k5,k6,k7,k8,k9,k10,k11,k12⟩:=bt8 (m:=m) (E:=41::r) (.inr ⟨41,r,rfl,.inr rfl⟩) (fun q u=> ∃q2,Tat s q 5 ⟨#[41]⟩ r q2 u) (fun q h1 h2=>by obtain⟨q2,u,hu⟩:=aP2 (.inl rfl) h1 h2;exact⟨u,⟨q2,hu⟩,hu.sees 1 (.inl rfl),bd2 hu.opn (.inl rfl)⟩) xs hx hF hB hf hd hq h22 h18 ht hp hu
 have hasg:=aJ3 hf k7 k5.q k5.asg hv hvr k12 (by omega)
 rw [Int.add_sub_cancel] at hasg
 exact⟨t,n,u',q',q2,hs,hs1,hf,.inl rfl,k4,hasg,k6,k8,k9,k10,k11⟩
end
def aI8 (ks:List Nat):List (List UInt8 × Nd):=ks.map fun k=>(oneP k,oneN k)
def sT (ks:List Nat):List UInt8:=120::rowT (aI8 ks)
def xN:Nd:=lfN 1 ⟨#[120]⟩
def sN (ks:List Nat):Nd:=rowN xN (aI8 ks)
theorem bP6 {s:ByteArray} (ks:List Nat) (hk:ks.length≤20) (hs:s.data.toList=sT ks) (F:Nat): ∃n q,aB9 s false (F+40)= .ok n q∧ab1 n=sN ks∧aa0 n≤300:=by
 have hl:(aI8 ks).length=ks.length:=by simp [aI8]
 have hst:=bG9 (.inl rfl) (aI8 ks)
 rw [List.append_nil] at hst
 obtain⟨q,t,ht⟩:=aP3 (s:=s) (p:=0) (gap:= []) (x:=120) (R:=rowT (aI8 ks)) g0 (by decide) (aW3 hst) (by rw [List.drop_zero,hs];rfl) (Nat.zero_le _)
 have h1:Nm t:=nm_l ht (by decide)
 have hv: ∃v,Sees s 1 t.till v∧punctT v ⟨#[61,62]⟩=false:=by
  rw [ht.till]
  cases ks with
  |nil=>exact⟨_,bf4 (.inl rfl) ht.rest ht.le,rfl⟩
  |cons k ks=>
   obtain⟨_,o,ho⟩:=bb6 (gap:= [32]) (.inr rfl) ht.rest ht.le
   exact⟨o,ho.sees 1 (.inl rfl),ho.opn.no (by decide)⟩
 obtain⟨v,hv1,hv2⟩:=hv
 have hgp: ∀x ∈ aI8 ks,bl5 s false (F+34) x:=fun x hx=>by
  obtain⟨k,_,rfl⟩:=List.mem_map.1 hx
  exact fun p R hR hd hp=>bS3 k (.inr rfl) hR hd hp
 obtain⟨n,q2,e1,e2,e3⟩:=aO5 (s:=s) (F:=F+34) (aI8 ks) hgp (by omega) (Ufn.nmT h1) (ht.sees 2 (.inr rfl)) hv1 hv2 (a:=ah2 1 t) ht.rest ht.le (show(1:Int)≠22 by decide) (show(1:Int)≠18 by decide) ht.till rfl (by show 1+0+_≤_;omega) (B:=3800) (by decide) (by decide) (fun u hu he _=>ai8 (F:=F+32) (by have:=bc6 (m:=false) (B:=3800) (F+30) h1 (u:=u) (by rw [ht.till];exact hu);rw [ht.till] at this;exact this) (Ufn.nmT h1) (show(1:Int)≠22 by decide) (by rintro⟨_,h⟩;exact absurd h h1.asy) he)
 refine⟨n,q2,e1,?_,?_⟩
 ·rw [e2,al8 1 t (by decide),ht.text]
  rfl
 ·have:aa0 (ah2 1 t)=1:=rfl
  omega
def tT:List Nat→List UInt8
 | []=> [40,120,41]
 |k::ks=>40::(tT ks++41::32::43::32::twoP k)
def tN:List Nat→Nd
 | []=>xN
 |k::ks=>au0 (tN ks) (twoN k)
section
variable {s:ByteArray} {m:Bool}
theorem bP1 {F:Nat} : ∀(ks:List Nat) (p:Nat) (r:List UInt8) (B:Int),ks.length≤20→B+ks.length≤3800→s.data.toList.drop p=tT ks++41::r→p≤s.size→Ac s m (F+28+11*ks.length) p 41 r (tN ks) B (3+14*ks.length)
 | [],p,r,B,_,hB,hd,hp=>(be7 (F:=F+17) (Z:=1) g0 hd hp (.inl rfl) (by simp at hB;omega) fun p' h1 h2=>aE0 (F:=F+8) (by simp at hB;omega) g0 (by decide) (fun h=>nm_l h (by decide)) (.inl rfl) h1 h2).mono (Int.le_refl _) (by decide)
 |k::ks,p,r,B,hk,hB,hd,hp=>by
  rw [List.length_cons] at hk hB⊢
  obtain⟨p',t,ht⟩:=an4 (s:=s) (p:=p) (gap:= []) (x:=40) (R:=tT ks++41::(32::43::32::(twoP k++41::r))) g0 (.inl rfl) (by rw [hd];simp [tT]) hp
  have hin:=bP1 (F:=F) ks p' (32::43::32::(twoP k++41::r)) (B+1) (by omega) (by omega) ht.rest ht.le
  have h0:=hin
  obtain⟨_,_,_,_,_,_,⟨v',hv1,hv2⟩,_⟩:=h0
  obtain⟨a,q,h1,h2,h3,h4,h5,h6,h7,h8⟩:=av7 ht hin
  have hk22:a.kind≠22:=by rw [h5];decide
  have h:=bE6 (m:=m) (F:=F+11*ks.length+34) (p:=p) (r:=r) [(twoP k,twoN k)] (fun x hx=>by rw [List.mem_singleton.1 hx];exact fun p R hR hd hp=>bG6 k (.inr rfl) hR hd hp) (by show 1≤_;omega) (B:=B) (by omega) (ht.sees 2 (.inr rfl)) ⟨t,ht.sees 1 (.inl rfl),ht.opn.no (by decide)⟩ (Ufn.opn (.inl rfl) ht.opn) (by rw [ht.till];exact hv1) hv2 (by rw [h1];simp [rowT]) h2 hk22 (by rw [h5];decide) h6 h7 (fun u hu he har=>by
   have:=ai8 (F:=F+28+11*ks.length+4) (h3 u hu har) (Ufn.opn (.inl rfl) ht.opn) hk22 (by rw [h5];simp) he
   rw [show F+28+11*ks.length+4+3=F+11*ks.length+34+1 by omega] at this
   exact this)
  rw [h4,show F+11*ks.length+34+5=F+28+11*(ks.length+1) by omega] at h
  exact h.mono (Int.le_refl _) (by simp;omega)
theorem bP7 (ks:List Nat) (hk:ks.length≤20) (hs:s.data.toList=tT ks) (F:Nat): ∃n q,aB9 s false (F+40+11*ks.length)= .ok n q∧ab1 n=tN ks∧aa0 n≤400:=by
 cases ks with
 |nil=>
  obtain⟨p',t,ht⟩:=an4 (s:=s) (p:=0) (gap:= []) (x:=40) (R:= [120,41]) g0 (.inl rfl) (by rw [List.drop_zero,hs];rfl) (Nat.zero_le _)
  have hin:Ac s false (F+28) p' 41 [] xN 3800 1:=aE0 (F:=F+19) (by decide) g0 (by decide) (fun h=>nm_l h (by decide)) (.inl rfl) ht.rest ht.le
  have h0:=hin
  obtain⟨_,_,_,_,_,_,⟨v',hv1,hv2⟩,_⟩:=h0
  obtain⟨a,q,h1,h2,h3,h4,h5,h6,h7,h8⟩:=av7 ht hin
  have hk22:a.kind≠22:=by rw [h5];decide
  obtain⟨n,q2,e1,e2,e3⟩:=aO5 (s:=s) (F:=F+34) [] (by simp) (Nat.zero_le _) (Ufn.opn (.inl rfl) ht.opn) (ht.sees 2 (.inr rfl)) (by rw [ht.till];exact hv1) hv2 h1 h2 hk22 (by rw [h5];decide) h6 h7 (by simp;omega) (B:=3800) (by decide) (by decide) (fun u hu he har=>ai8 (F:=F+32) (h3 u hu har) (Ufn.opn (.inl rfl) ht.opn) hk22 (by rw [h5];simp) he)
  exact⟨n,q2,e1,e2.trans h4,by simp at e3;omega⟩
 |cons k ks=>
  rw [List.length_cons] at hk⊢
  obtain⟨p',t,ht⟩:=an4 (s:=s) (p:=0) (gap:= []) (x:=40) (R:=tT ks++41::(32::43::32::twoP k)) g0 (.inl rfl) (by rw [List.drop_zero,hs];simp [tT]) (Nat.zero_le _)
  have hin:=bP1 (F:=F+11) (m:=false) ks p' (32::43::32::twoP k) 3700 (by omega) (by omega) ht.rest ht.le
  have h0:=hin
  obtain⟨_,_,_,_,_,_,⟨v',hv1,hv2⟩,_⟩:=h0
  obtain⟨a,q,h1,h2,h3,h4,h5,h6,h7,h8⟩:=av7 ht hin
  have hk22:a.kind≠22:=by rw [h5];decide
  obtain⟨n,q2,e1,e2,e3⟩:=aO5 (s:=s) (F:=F+11*ks.length+45) [(twoP k,twoN k)] (fun x hx=>by rw [List.mem_singleton.1 hx];exact fun p R hR hd hp=>bG6 (F:=F+11*ks.length+11) k (.inr rfl) hR hd hp) (by show 1≤_;omega) (Ufn.opn (.inl rfl) ht.opn) (ht.sees 2 (.inr rfl)) (by rw [ht.till];exact hv1) hv2 (by rw [h1];simp [rowT]) h2 hk22 (by rw [h5];decide) h6 h7 (by show _+13*1≤_;omega) (B:=3700) (by decide) (by decide) (fun u hu he har=>by
   have:=ai8 (F:=F+11+28+11*ks.length+4) (h3 u hu har) (Ufn.opn (.inl rfl) ht.opn) hk22 (by rw [h5];simp) he
   rw [show F+11+28+11*ks.length+4+3=F+11*ks.length+45+1 by omega] at this
   exact this)
  refine⟨n,q2,?_,?_,?_⟩
  ·rw [show F+40+11*(ks.length+1)=F+11*ks.length+45+6 by omega]
   exact e1
  ·rw [e2,h4]
   rfl
  ·simp at e3
   omega
theorem bh9 (hs:s.data.toList= [40,39,97,39,32,43,32,48,120,48,70,41]): ∃n q,aB9 s false 70= .ok n q∧ab1 n=au0 (lfN 4 ⟨#[39,97,39]⟩) (lfN 3 ⟨#[48,120,48,70]⟩)∧aa0 n≤40:=by
 obtain⟨p',t,ht⟩:=an4 (s:=s) (p:=0) (gap:= []) (x:=40) (R:= [39,97,39,32,43,32,48,120,48,70,41]) g0 (.inl rfl) (by rw [List.drop_zero,hs];rfl) (Nat.zero_le _)
 have hin:Ac s false 58 p' 41 [] (au0 (lfN 4 ⟨#[39,97,39]⟩) (lfN 3 ⟨#[48,120,48,70]⟩)) 3800 14:=by
  obtain⟨q1,t1,h1⟩:=aU2 (q:=39) (b:= [97]) (R:=32::43::32::([48,120,48,70]++ [41])) (.inl rfl) g0 (aU1 _ _ _ (by decide)) (by kernel_rfl) ht.rest ht.le
  obtain⟨_,o,ho⟩:=bb6 (gap:= [32]) (.inr rfl) h1.rest h1.le
  have h:=bE6 (s:=s) (m:=false) (F:=53) (p:=p') (r:= []) [([48,120,48,70],lfN 3 ⟨#[48,120,48,70]⟩)] (fun x hx=>by
   rw [List.mem_singleton.1 hx]
   intro p R hR hd hp
   obtain⟨q,t,ht⟩:=bb5 (x:=120) (h:= [48,70]) (.inr rfl) (.inl rfl) (by decide) (by decide) hR.num hd hp
   exact aG4 (F:=49) ht (.inl rfl)) (by decide) (B:=3800) (by decide) (h1.sees 2 (.inr rfl)) ⟨t1,h1.sees 1 (.inl rfl),Ufn.pn1 h1 (by decide)⟩ (Ufn.lit (by rw [h1.kind];decide)) (by rw [h1.till];exact ho.sees 1 (.inl rfl)) (ho.opn.no (by decide)) (a:=ah2 4 t1) h1.rest h1.le (show(4:Int)≠22 by decide) (show(4:Int)≠18 by decide) h1.till rfl (fun u hu he _=>ai8 (F:=51) (by have:=aW6 (m:=false) (F:=50) (B:=3801) h1 (.inr rfl) (u:=u) (by rw [h1.till];exact hu);rw [h1.till] at this;exact this) (Ufn.lit (by rw [h1.kind];decide)) (show(4:Int)≠22 by decide) (by rintro⟨h,_⟩;exact absurd (show(4:Int)=1 from h) (by decide)) he)
  rw [al8 4 t1 (by decide),h1.text] at h
  exact h.mono (Int.le_refl _) (by show 1+0+13*1≤14;decide)
 have h0:=hin
 obtain⟨_,_,_,_,_,_,⟨v',hv1,hv2⟩,_⟩:=h0
 obtain⟨a,q,h1,h2,h3,h4,h5,h6,h7,h8⟩:=av7 ht hin
 have hk22:a.kind≠22:=by rw [h5];decide
 obtain⟨n,q2,e1,e2,e3⟩:=aO5 (s:=s) (F:=64) [] (by simp) (Nat.zero_le _) (Ufn.opn (.inl rfl) ht.opn) (ht.sees 2 (.inr rfl)) (by rw [ht.till];exact hv1) hv2 h1 h2 hk22 (by rw [h5];decide) h6 h7 (by simp;omega) (B:=3800) (by decide) (by decide) (fun u hu he har=>ai8 (F:=62) (h3 u hu har) (Ufn.opn (.inl rfl) ht.opn) hk22 (by rw [h5];simp) he)
 exact⟨n,q2,e1,e2.trans h4,by simp at e3;omega⟩
end
end
section
open Go.RowKit
theorem NdW.low {w:World} {L L' B:Nat} {n:Nd} {v:Value} (h:NdW w L B n v) (hL:L'≤L):NdW w L' B n v:=by
 obtain⟨b,cap,h1,h2⟩:=h
 exact⟨b,cap,h1,RowE.keeps.k hL (Nat.le_refl _) (fun _ _ _=>rfl) h2⟩
theorem NdV.low {w:World} {L L' B B':Nat} {n:Nd} {v:Value} (h:NdV w L B n v) (hL:L'≤L) (hB:B≤B'):NdV w L' B' n v:=by
 obtain⟨b,cap,h1,h2,h3⟩:=h
 exact⟨b,cap,h1,h2,ah9 hL hB (fun _ _ _=>rfl) h3⟩
theorem bi3 {fn:Func} (h:fn.results= #[.cell 2 28,.tmp 3]) {tmps:Array Value} {w:World} {b:Nat} {k:Int} {t:ByteArray} {v:Value} {f u:Int} {z:Value}
  (h2:tmps.getD 2 undef= .pointer (some ⟨b,0,none⟩)) (h3:tmps.getD 3 undef=z) (hb:aa6 w b k t v f u):
  (results fn tmps).run Tryz.prog w= .ok (.tuple #[.agg #[.int .i64 k,.string t,v,.int .i64 f,.int .i64 u],z]) w:=by
 have e2:tmps[2]?.getD undef= .pointer (some ⟨b,0,none⟩):=by simpa using h2
 have e3:tmps[3]?.getD undef=z:=by simpa using h3
 have r2:=run_loadVar_row (P:=Tryz.prog) w b _ 28 _ _ _ hb Tryz.underlying28 rfl (by kernel_rfl)
 simp [results,h,e2,e3,asAddr,r2]
def bl6 (w:World) (ao:Option Addr) (len:Nat):Prop:= ∀j,j<len→∃b off,ao=some ⟨b,off,none⟩∧b<w.heap.size∧∃z:Int,w.cell? ⟨b,off+j,none⟩=some (.int .i64 z)
theorem bU7 (i:Int) (n:Nat) (hn:0<n): ∃a:Nat,(IntKind.u64.wrap i).tmod n=(a:Int)∧a<n:=by
 have e:IntKind.u64.wrap i=i % 18446744073709551616:=rfl
 have h1:0≤(IntKind.u64.wrap i).tmod n:=by rw [e,Int.tmod_eq_emod_of_nonneg (by omega)];exact Int.emod_nonneg _ (by omega)
 have h2:(IntKind.u64.wrap i).tmod n<n:=by rw [e,Int.tmod_eq_emod_of_nonneg (by omega)];exact Int.emod_lt_of_pos _ (by omega)
 exact⟨((IntKind.u64.wrap i).tmod n).toNat,by omega,by omega⟩
def StrS (g:Nat) (l:List (List UInt8)) (W:World):Prop:=g<W.heap.size∧∀a,(h:a<l.length)→W.cell? ⟨g,a,none⟩=some (.string ⟨l[a].toArray⟩)
theorem StrS.new (w:World) (l:List (List UInt8)) (T:TypeId):StrS w.heap.size l (w.alloc (.cells (l.map fun o=>Value.string ⟨o.toArray⟩).toArray T)):=by
 refine⟨by rw [World.size_alloc];exact Nat.lt_succ_self _,fun a h=> ?_⟩
 rw [cell_of_row _ _ _ _ T (0,0) (heap_alloc_new _ _),List.getElem?_toArray,List.getElem?_map,List.getElem?_eq_getElem h]
 rfl
theorem StrS.bel {g:Nat} {l:List (List UInt8)} {w w':World} (h:StrS g l w) (hb:Below w.heap.size w w'):StrS g l w':=
 ⟨Nat.lt_of_lt_of_le h.1 hb.size,fun a ha=>(World.cell?_of_block (hb.block g h.1)).trans (h.2 a ha)⟩
theorem aM4 {S:ByteArray} {l:List UInt8} (h:S.data.toList=l):S.size=l.length:=by
 rw [←h]
 exact Array.length_toList.symm
theorem bm2 (m:Nd):aa0 (ab1 m)≤aa0 m:=by
 induction m using Nd.ind with
 |h m ih=>
  rw [aw7]
  split
  ·cases hk:m.kids with
   |nil=>rw [au8,Nd.zero,aa0,aa8,ac4];omega
   |cons k ks=>
    rw [au8]
    have h1:=ih k (by rw [hk];exact .head _)
    have h2:=al0 (show k ∈ m.kids by rw [hk];exact .head _)
    rw [ac4 m]
    omega
  ·rw [aa0,ac4 m]
   have key: ∀l:List Nd,(∀x ∈ l,aa0 (ab1 x)≤aa0 x)→aa8 (l.map ab1)≤aa8 l:=by
    intro l
    induction l with
    |nil=>intro _;exact Nat.le_refl _
    |cons x l ihl=>
     intro h
     rw [List.map_cons,aa8,aa8]
     have h1:=h x (.head _)
     have h2:=ihl fun y hy=>h y (.tail _ hy)
     omega
   have:=key m.kids ih
   omega
theorem aM5 {n:Nd} (h:aa0 n≤8000):ao3 n=ab1 n:=by
 unfold ao3
 rw [if_pos (Nat.le_trans (bn8 n) h)]
end
section
open Go.RowKit
theorem bc8 (a b:Nd):canN (au0 a b)=au0 (canN a) (canN b):=by
 unfold au0
 rw [canN,aB8,aB8,aB8]
 rfl
theorem bm7: ∀k,canN (oneN k)=canN (twoN k)
 |0=>by kernel_rfl
 |1=>by kernel_rfl
 |2|3=>rfl
 |4=>by kernel_rfl
 |5|6=>rfl
 |_+7=>by kernel_rfl
theorem bM1: ∀k,okC (oneN k)=true
 |0=>by kernel_rfl
 |1=>by kernel_rfl
 |2|3=>by kernel_rfl
 |4=>by kernel_rfl
 |5|6=>by kernel_rfl
 |_+7=>by kernel_rfl
theorem bM2: ∀k,okC (twoN k)=true
 |0=>by kernel_rfl
 |1=>by kernel_rfl
 |2|3=>by kernel_rfl
 |4=>by kernel_rfl
 |5|6=>by kernel_rfl
 |_+7=>by kernel_rfl
theorem br8 {a b:Nd} (ha:okC a=true) (hb:okC b=true):okC (au0 a b)=true:=by
 unfold au0
 rw [okC,okCs,okCs,okCs,ha,hb]
 rfl
theorem aT9 (x:List UInt8 × Nd): ∀(xs:List (List UInt8 × Nd)) (a:Nd),rowN a (xs++ [x])=au0 (rowN a xs) x.2
 | [],_=>rfl
 |y::xs,a=>aT9 x xs (au0 a y.2)
theorem aU0 (x:List UInt8 × Nd): ∀(xs:List (List UInt8 × Nd)),rowT (xs++ [x])=rowT xs++(32::43::32::x.1)
 | []=>by simp [rowT]
 |y::xs=>by rw [List.cons_append,rowT,aU0 x xs,rowT];simp
theorem bN5 (ks:List Nat) (k:Nat):sN (ks++ [k])=au0 (sN ks) (oneN k):=by
 unfold sN aI8
 rw [List.map_append]
 exact aT9 _ _ _
theorem bu5 (ks:List Nat) (k:Nat):sT (ks++ [k])=sT ks++([32,43,32]++oneP k):=by
 unfold sT aI8
 rw [List.map_append]
 show 120::rowT (_++ [(oneP k,oneN k)])=_
 rw [aU0]
 simp
theorem bF0: ∀r:List Nat,canN (sN r.reverse)=canN (tN r)∧okC (sN r.reverse)=true∧okC (tN r)=true
 | []=>⟨rfl,by kernel_rfl,by kernel_rfl⟩
 |k::r=>by
  obtain⟨h1,h2,h3⟩:=bF0 r
  rw [List.reverse_cons,bN5,tN,bc8,bc8,h1,bm7]
  exact⟨rfl,br8 h2 (bM1 k),br8 h3 (bM2 k)⟩
theorem au4 (f:Nd→Bool): ∀l,aa8 (l.filter f)≤aa8 l
 | []=>Nat.le_refl _
 |n::l=>by
  have h:=au4 f l
  rw [List.filter_cons,aa8]
  split
  ·rw [aa8];omega
  ·omega
mutual
theorem bc9: ∀n,aa0 (canN n)≤aa0 n
 | .mk k t ks f u=>by
  have h:=aQ6 ks
  have h2:aa8 (drpN k (aB8 ks))≤aa8 (aB8 ks):=by
   unfold drpN
   split
   ·exact au4 _ _
   ·exact Nat.le_refl _
  rw [canN,aa0,aa0]
  omega
theorem aQ6: ∀ks,aa8 (aB8 ks)≤aa8 ks
 | []=>Nat.le_refl _
 |k::ks=>by
  have h1:=bc9 k
  have h2:=aQ6 ks
  rw [aB8,aa8,aa8]
  omega
end
theorem bu4: ∀r:List Nat,(sT r.reverse).length≤1+14*r.length∧(tT r).length≤3+15*r.length
 | []=>by decide
 |k::r=>by
  obtain⟨h1,h2⟩:=bu4 r
  have h3:(oneP k).length≤11∧(twoP k).length≤10:=by
   match k with
   |0|1|2|3|4|5|6=>decide
   |_+7=>exact⟨Nat.le_refl _,Nat.le_refl _⟩
  rw [List.reverse_cons,bu5,tT]
  simp only [List.length_append,List.length_cons,List.length_nil]
  omega
theorem bl0 {S T:ByteArray} {r:List Nat} (hl:r.length≤20) (hS:S.data.toList=sT r.reverse) (hT:T.data.toList=tT r):
  ∃n q m p c F,aB9 S false 60= .ok n q∧aB9 T false F= .ok m p∧F≤1073741824∧aa0 n≤4194304∧aa0 m≤4194304∧okC (ao3 n)=true∧okC (ao3 m)=true∧canN (ao3 n)=c∧canN (ao3 m)=c∧aa0 c≤4194304:=by
 obtain⟨n,q,a1,a2,a3⟩:=bP6 (s:=S) r.reverse (by rw [List.length_reverse];exact hl) hS 20
 obtain⟨m,p,b1,b2,b3⟩:=bP7 (s:=T) r hl hT 0
 obtain⟨h1,h2,h3⟩:=bF0 r
 have en:ao3 n=sN r.reverse:=(aM5 (by omega)).trans a2
 have em:ao3 m=tN r:=(aM5 (by omega)).trans b2
 have hz:=bc9 (tN r)
 have hz2:=bm2 m
 rw [b2] at hz2
 exact⟨n,q,m,p,canN (tN r),_,a1,b1,by omega,by omega,by omega,by rw [en];exact h2,by rw [em];exact h3,by rw [en];exact h1,by rw [em],by omega⟩
end
end Go.Proofs.YtibpjkkgfgmkmaaGreatDoor
