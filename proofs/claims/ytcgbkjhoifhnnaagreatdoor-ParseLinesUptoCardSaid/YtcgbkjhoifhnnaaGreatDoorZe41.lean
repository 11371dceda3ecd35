/- Steps (LnD LnT LnP LnQ LnR LnL). Conditions: as stated. -/
import Derived.Test.YtcgbkjhoifhnnaaGreatDoorZe40
namespace Go.Proofs.YtcgbkjhoifhnnaaGreatDoor
section
open Go.RowKit
theorem bw9 (q:UInt8): ∀(b l:List UInt8),(∀c ∈ b,c≠q∧c≠10∧c≠13∧c≠92)→sc q (b++q::l)=b.length
 | [],l,_=>by rw [List.nil_append,aM2,if_pos (.inl rfl)];rfl
 |c::b,l,h=>by
  obtain⟨h1,h2,h3,h4⟩:=h c (.head _)
  rw [List.cons_append,aM2,if_neg (by rintro(e|e|e)<;>contradiction),if_neg h4,bw9 q b l (fun c hc=>h c (.tail _ hc)),List.length_cons]
  omega
theorem bE1 {q:UInt8} {b l:List UInt8} (hb: ∀c ∈ b,c≠q∧c≠10∧c≠13∧c≠92) (hs:strC (q::(b++ [q]))=(true,0)):txt (q::(b++q::l))= .fine 4 (b.length+2):=by
 have e1:txtL (q::(b++q::l))=2+b.length:=by
  show(if sc q (b++q::l)<(b++q::l).length∧((b++q::l).drop (sc q (b++q::l))).head? =some q then 2+sc q (b++q::l) else min (1+sc q (b++q::l)) ((b++q::l).length+1))=_
  rw [bw9 q b l hb,if_pos ⟨by simp,by simp⟩]
 have e2:(q::(b++q::l)).take (2+b.length)=q::(b++ [q]):=by
  rw [show 2+b.length=(b.length+1)+1 by omega,List.take_succ_cons,List.take_append]
  simp
  exact List.take_of_length_le (by omega)
 unfold txt
 rw [e1,e2,hs,if_pos rfl,Nat.add_comm]
theorem bl2 {g:Int} {q:UInt8} (hq:q=39∨q=34) {b l:List UInt8} (hb: ∀c ∈ b,c≠q∧c≠10∧c≠13∧c≠92) (hs:strC (q::(b++ [q]))=(true,0)):ah6 g ((q::(b++ [q]))++l)= .fine 4 (q::(b++ [q])).length:=by
 have e:(q::(b++ [q]))++l=q::(b++q::l):=by simp
 have h:=bE1 (l:=l) hb hs
 rw [e]
 unfold ah6
 have hn: ∀d:UInt8,d≠39→d≠34→q≠d:=by rcases hq with rfl|rfl<;>intro d h1 h2<;>exact fun e=>by subst e;contradiction
 have hd:ai8 (q::(b++q::l))=false:=by rcases hq with rfl|rfl<;>rfl
 rw [if_neg (by simp),if_neg (by rw [ad7 (hn _ (by decide) (by decide))];decide),if_neg (by rw [ad7 (hn _ (by decide) (by decide))];decide),if_neg (by rw [hd,ad7 (hn 46 (by decide) (by decide))];simp),if_pos (by rcases hq with rfl|rfl<;>simp [Lib.hasPrefix]),h]
 simp
section
variable {s:ByteArray}
theorem bf3 {r:List UInt8} : ∀(gap:List UInt8) (p:Nat) (line:Bool),(∀c ∈ gap,c=32∨c=10)→s.data.toList.drop p=gap++r→∃line',btw s p line=btw s (p+gap.length) line'
 | [],p,line,_,_=>⟨line,rfl⟩
 |c::gap,p,line,h,hd=>by
  have hc:=h c (.head _)
  have hlt:=bu0 (c:=c) (l:=gap++r) hd
  have h1:ap9 (c::(gap++r))=true:=by
   unfold ap9
   rcases hc with rfl|rfl<;>(rw [af4 _ _ (by decide)];rfl)
  have h2:(nx (c::(gap++r))).2.toNat=1:=by rcases hc with rfl|rfl<;>(rw [af4 _ _ (by decide)];rfl)
  obtain⟨l',e⟩:=bf3 gap (p+1) (line||am4 (nx (c::(gap++r))).1) (fun c hc=>h c (.tail _ hc)) (aX3 hd)
  refine⟨l',?_⟩
  rw [ax9 s p line (by omega),hd,List.cons_append,if_pos h1,h2,e,List.length_cons,show p+1+gap.length=p+(gap.length+1) by omega]
theorem bt7 {gap a l:List UInt8} {kind:Int} {p:Nat} (hgap: ∀c ∈ gap,c=32∨c=10) (hd:s.data.toList.drop p=gap++(a++l)) (hp:p≤s.size) (hi:Ink0 (a++l)) (ht: ∀g:Int,g=1∨g=2→ah6 g (a++l)= .fine kind a.length):
  ∃t:Tk,t.kind=kind∧t.text=⟨a.toArray⟩∧t.till=((p+gap.length+a.length:Nat):Int)∧∀g:Int,g=1∨g=2→Sees s g p t:=by
 obtain⟨line,hb⟩:=bf3 gap p false hgap hd
 have hq:=aQ2 hd
 have hf:=aM5 hd hp
 refine⟨⟨kind,⟨a.toArray⟩,((p+gap.length:Nat):Int),((p+gap.length+a.length:Nat):Int),line⟩,rfl,rfl,rfl,fun g hg=> ?_⟩
 refine⟨by omega,by omega,p+gap.length,a.length,?_,?_⟩
 ·rw [Int.toNat_natCast]
  have hb2:btw s p false= .fine (p+gap.length) line []:=hb.trans (aK5 hq hf ⟨hi.1,hi.2 _⟩)
  have ht2:=ht g hg
  rw [←hq] at ht2
  unfold nxt tokT
  rcases hg with rfl|rfl<;>
  ·rw [if_neg (by rintro(h|h|⟨h,_⟩)<;>omega),if_neg (by decide),hb2]
   simp only
   rw [if_neg (by decide),if_neg (by decide),if_neg (by decide),ht2]
 ·unfold tkOf
  rw [bu1 hq]
end
section
variable {s:ByteArray} {m:Bool} {i j ne ar ar2:Int} {t u v w b o e:Tk} {n r:Nd} {p:Ps} {f:Nat}
structure Tat (s:ByteArray) (p:Nat) (kind:Int) (x:ByteArray) (l:List UInt8) (p':Nat) (t:Tk):Prop where
 kind:t.kind=kind
 text:t.text=x
 till:t.till=(p':Int)
 sees: ∀g:Int,g=1∨g=2→Sees s g p t
 rest:s.data.toList.drop p'=l
 le:p'≤s.size
theorem at3 {gap a l:List UInt8} {kind:Int} {p:Nat} (hgap: ∀c ∈ gap,c=32∨c=10) (hd:s.data.toList.drop p=gap++(a++l)) (hp:p≤s.size) (hi:Ink0 (a++l)) (ht: ∀g:Int,g=1∨g=2→ah6 g (a++l)= .fine kind a.length):
  ∃p' t,Tat s p kind ⟨a.toArray⟩ l p' t:=by
 obtain⟨t,e1,e2,e3,e4⟩:=bt7 hgap hd hp hi ht
 refine⟨_,t,e1,e2,e3,e4,aQ2 (aQ2 hd),?_⟩
 have h1:=aM5 hd hp
 have h2:=aM5 (aQ2 hd) h1
 exact h2
theorem bD4 {q:UInt8} (hq:q=39∨q=34) {gap b l:List UInt8} {p:Nat} (hgap: ∀c ∈ gap,c=32∨c=10) (hb: ∀c ∈ b,c≠q∧c≠10∧c≠13∧c≠92) (hs:strC (q::(b++ [q]))=(true,0)) (hd:s.data.toList.drop p=gap++((q::(b++ [q]))++l)) (hp:p≤s.size):
  ∃p' t,Tat s p 4 ⟨(q::(b++ [q])).toArray⟩ l p' t:=
 at3 hgap hd hp (by rcases hq with rfl|rfl<;>exact bh9 (by decide) (by decide) (by decide) (by decide)) (fun _ _=>bl2 hq hb hs)
theorem Tat.opn {c:UInt8} {p p':Nat} {l:List UInt8} (h:Tat s p 5 ⟨#[c]⟩ l p' t):Opn c t:=⟨h.kind,h.text⟩
theorem Tat.seen {g:Int} {k:Int} {x:ByteArray} {p p':Nat} {l:List UInt8} {t':Tk} (h:Tat s p k x l p' t) (hg:g=1∨g=2) (hq:t'.till=(p:Int)):Sees s g t'.till t:=by rw [hq];exact h.sees g hg
theorem Tat.go {k:Int} {x:ByteArray} {p p':Nat} {l:List UInt8} (h:Tat s p k x l p' t):t.till=(p':Int):=h.till
end
end
section
open Go.RowKit
def fW:Nat→List UInt8
 |0=> [97]
 |1=> [97]
 |2=> [102]
 |3=> [120]
 |4=> [108,101,116]
 |5=> [105,102]
 |6=> [119,104,105,108,101]
 |7=> [100,111]
 |8=> [98,114,101,97,107,95]
 |9=> [102,117,110,99,116,105,111,110]
 |10=> [99,108,97,115,115]
 |11=> [100,101,98,117,103,103,101,114]
 |12=> [116,104,114,111,119]
 |13=> [108]
 |14=> [118,97,114]
 |15=> [97]
 |_=> [39,115,39]
def fR:Nat→List UInt8
 |1=> [32,61,32,98]
 |2=> [40,120,41]
 |3=> [43,43]
 |4=> [32,118,32,61,32,49]
 |5=> [32,40,97,41,32,98]
 |6=> [32,40,97,41,32,98]
 |7=> [32,97,59,32,119,104,105,108,101,32,40,98,41]
 |9=> [32,102,40,41,32,123,125]
 |10=> [32,67,32,123,125]
 |12=> [32,97]
 |13=> [58,32,97]
 |14=> [32,119]
 |15=> [32,63,32,98,32,58,32,99]
 |_=> []
def tlT (b:Bool) (k:Nat):List UInt8:=if b then (if k=9∨k=10 then [] else [59]) else [10]
def lnT (b:Bool):List Nat→List UInt8
 | []=> []
 |k::ks=>fW k++(fR k++(tlT b k++lnT b ks))
theorem bG5 {c:UInt8} (l:List UInt8) (h:c.toNat<128) (hp:aw0 ((c.toNat:Nat):Int)=false):am5 false (c::l)=false∧0≤(nx (c::l)).2:=by
 refine⟨?_,by rw [af4 _ _ h];exact(show(0:Int)≤1 by decide)⟩
 unfold am5
 rw [af4 _ _ h]
 simp only [hp,Bool.false_and,Bool.or_false,Bool.and_false]
theorem ofl3 (l:List UInt8):(⟨l.toArray⟩:ByteArray).size=l.length:=by
 show l.toArray.size=_
 simp
theorem bv0 {s:ByteArray} {i:Nat} (h:i<s.size) {c:UInt8} (hc:s.data.toList[i]? =some c):s[i]=c:=by
 have h2:i<s.data.size:=h
 have:s.data[i]'h2=c:=by
  rw [Array.getElem?_toList] at hc
  rw [Array.getElem?_eq_getElem h2] at hc
  exact Option.some.inj hc
 exact this
theorem bt4 {c:UInt8} (hc:c=10∨c=59) (l:List UInt8):runN 0 false (49::c::l)=1:=by
 have hi:isD 0 c=false:=by rcases hc with rfl|rfl<;>kernel_rfl
 rw [runN,if_pos (by kernel_rfl),runN,if_neg (by rw [hi];decide),if_neg (fun h=>absurd h.1 (by rcases hc with rfl|rfl<;>decide))]
theorem br8 {c:UInt8} (hc:c=10∨c=59) (l:List UInt8):am0 (49::c::l)=1:=by
 have hS:(⟨(49::c::l).toArray⟩:ByteArray).data.toList=49::c::l:=by simp
 have hz:(⟨(49::c::l).toArray⟩:ByteArray).size=1+(l.length+1):=by rw [ofl3];simp;omega
 have ho:au6 ⟨(49::c::l).toArray⟩=false:=by
  unfold au6
  split
  ·rename_i h2
   have e0:(⟨(49::c::l).toArray⟩:ByteArray)[0]=49:=bv0 (by omega) (by simp)
   rw [e0]
   rfl
  ·rfl
 unfold am0 aL7 at1
 rw [ho,if_neg (show¬((false:Bool)=true) by decide)]
 generalize (⟨(49::c::l).toArray⟩:ByteArray)=S at hS hz⊢
 have hw:(ag2 S).2=S.extract 1 S.size∧(ag2 S).1.size=1:=by
  unfold ag2
  rw [if_neg (by rw [hS,ad7 (by decide)];decide)]
  unfold runB
  rw [hS,bt4 hc l]
  refine⟨rfl,?_⟩
  rw [ByteArray.size_extract]
  omega
 have hr:(S.extract 1 S.size).data.toList=c::l:=by rw [ag6,hS];rfl
 have hrz:(S.extract 1 S.size).size=l.length+1:=by rw [ByteArray.size_extract];omega
 have hn: ∀x:UInt8,x≠10→x≠59→c≠x:=by rintro x h1 h2 rfl;rcases hc with h|h<;>contradiction
 obtain⟨hw1,hw2⟩:=hw
 have hp:ao1 (ag2 S).2=(false,emp,S.extract 1 S.size):=by
  rw [hw1]
  unfold ao1
  rw [if_neg (by rw [hr,ad7 (hn _ (by decide) (by decide))];decide)]
 have he: ∀x:Lit,expL x (S.extract 1 S.size)=(x,S.extract 1 S.size):=by
  intro x
  unfold expL expO
  rw [dif_pos (by omega)]
  have e0:(S.extract 1 S.size)[0]'(by omega)=c:=bv0 (by omega) (by rw [hr];rfl)
  rw [e0,if_neg (by rcases hc with rfl|rfl<;>decide)]
 have hb: ∀x:Lit,bigL x (S.extract 1 S.size)=(x,S.extract 1 S.size):=by
  intro x
  unfold bigL
  rw [if_neg (by rw [hr,ad7 (hn _ (by decide) (by decide))];simp)]
 have hsc:(aA3 S).2=(S.extract 1 S.size,true):=by
  unfold aA3
  simp only
  rw [hp,if_neg (by rw [hw2];simp)]
  simp only
  rw [he,hb]
 rw [hsc]
 simp only [if_true]
 rw [hrz,hz]
 omega
theorem bl1 {g:Int} {c:UInt8} {l:List UInt8} (hc:c=10∨c=59):ah6 g (49::c::l)= .fine 3 1:=by
 have hn:numL (49::c::l)=1:=by
  unfold numL
  rw [br8 hc,if_neg]
  show¬(0<(nx (c::l)).2∧(ae5 (nx (c::l)).1=true∨ai8 (c::l)=true))
  rw [af4 _ _ (by rcases hc with rfl|rfl<;>decide)]
  simp only
  rintro⟨_,h|h⟩
  ·rcases hc with rfl|rfl
   ·rw [show ae5 ((10:UInt8).toNat:Int)=false by kernel_rfl] at h;cases h
   ·rw [show ae5 ((59:UInt8).toNat:Int)=false by kernel_rfl] at h;cases h
  ·rcases hc with rfl|rfl<;>cases h
 have ht:numT (49::c::l)= .fine 3 1:=by
  unfold numT aft
  rw [hn,if_neg (by decide),show(49::c::l).drop 1=c::l from rfl,af4 _ _ (by rcases hc with rfl|rfl<;>decide),if_neg (show¬((1:Int)<0) by decide)]
 rw [←ht]
 unfold ah6
 rw [if_neg (by simp),if_neg (by rw [ad7 (by decide)];decide),if_neg (by rw [ad7 (by decide)];decide),if_pos (.inl (by kernel_rfl))]
def SepC (l:List UInt8):Prop:=l= []∨∃c r,l=c::r∧(c=10∨c=32∨c=40∨c=41∨c=43∨c=58∨c=59∨c=39)
theorem SepC.goes {l:List UInt8} (h:SepC l):am5 false l=false∧0≤(nx l).2:=by
 rcases h with rfl|⟨c,r,rfl,h⟩
 ·exact⟨rfl,by decide⟩
 ·rcases h with rfl|rfl|rfl|rfl|rfl|rfl|rfl|rfl<;>exact bG5 _ (by decide) (by kernel_rfl)
theorem sepc (c:UInt8) (r:List UInt8) (h:c=10∨c=32∨c=40∨c=41∨c=43∨c=58∨c=59∨c=39):SepC (c::r):= .inr ⟨c,r,rfl,h⟩
section
variable {s:ByteArray} {p:Nat}
def GapL (gap:List UInt8):Prop:=gap= []∨gap= [32]∨gap= [10]
theorem GapL.all {gap:List UInt8} (h:GapL gap): ∀c ∈ gap,c=32∨c=10:=by
 rcases h with rfl|rfl|rfl<;>simp
theorem aL2 {c:UInt8} {l:List UInt8} (h:33≤c.toNat∧c.toNat<127∧c≠47∧c≠35):Ink0 (c::l):=bh9 h.1 h.2.1 h.2.2.1 h.2.2.2
theorem bD5 {c:UInt8} {gap a l:List UInt8} (hgap:GapL gap) (hc:low c) (ha: ∀x ∈ a,aC0 x=true) (hl:SepC l) (hd:s.data.toList.drop p=gap++((c::a)++l)) (hp:p≤s.size): ∃p' t,Tat s p 1 ⟨(c::a).toArray⟩ l p' t:=
 at3 hgap.all hd hp (aL2 ⟨by have:=hc.1;omega,by have:=hc.2;omega,by rintro rfl;exact absurd hc (by decide),by rintro rfl;exact absurd hc (by decide)⟩) (fun _ _=>bc2 hc (aO6 hc) ha hl.goes.1 hl.goes.2)
theorem au7 {c:UInt8} {gap l:List UInt8} (hgap:GapL gap) (hc:c=40∨c=41∨c=58∨c=59∨c=123∨c=125) (hd:s.data.toList.drop p=gap++(c::l)) (hp:p≤s.size): ∃p' t,Tat s p 5 ⟨#[c]⟩ l p' t:=
 at3 (a:= [c]) hgap.all hd hp (by rcases hc with rfl|rfl|rfl|rfl|rfl|rfl<;>exact aL2 (by decide)) (fun _ _=>by rcases hc with rfl|rfl|rfl|rfl|rfl|rfl<;>exact aw4 (by decide) (by decide) ((bk8 (by decide)).trans rfl) (show(1:Nat)≠0 by decide))
theorem bD2 {c:UInt8} {gap l:List UInt8} (hgap:GapL gap) (hc:c=61∨c=63) (hd:s.data.toList.drop p=gap++(c::32::l)) (hp:p≤s.size): ∃p' t,Tat s p 5 ⟨#[c]⟩ (32::l) p' t:=
 at3 (a:= [c]) hgap.all hd hp (by rcases hc with rfl|rfl<;>exact aL2 (by decide)) (fun _ _=>by rcases hc with rfl|rfl<;>exact aw4 (by decide) (by decide) ((bk8 (by decide)).trans rfl) (show(1:Nat)≠0 by decide))
theorem bJ9 {c:UInt8} {l:List UInt8} (hc:c=10∨c=59) (hd:s.data.toList.drop p=43::43::c::l) (hp:p≤s.size): ∃p' t,Tat s p 5 ⟨#[43,43]⟩ (c::l) p' t:=
 at3 (gap:= []) (a:= [43,43]) (by simp) hd hp (aL2 (by decide)) (fun _ _=>by rcases hc with rfl|rfl<;>exact aw4 (by decide) (by decide) ((bk8 (by decide)).trans rfl) (show(2:Nat)≠0 by decide))
theorem bL7 {c:UInt8} {l:List UInt8} (hc:c=10∨c=59) (hd:s.data.toList.drop p=32::49::c::l) (hp:p≤s.size): ∃p' t,Tat s p 3 ⟨#[49]⟩ (c::l) p' t:=
 at3 (gap:= [32]) (a:= [49]) (by simp) hd hp (aL2 (by decide)) (fun _ _=>bl1 hc)
theorem bL8 {l:List UInt8} (hd:s.data.toList.drop p=32::67::32::l) (hp:p≤s.size): ∃p' t,Tat s p 1 ⟨#[67]⟩ (32::l) p' t:=
 at3 (gap:= [32]) (a:= [67]) (by simp) hd hp (aL2 (by decide)) (fun _ _=>by
  have hn:am6 false (67::(32::l))=1:=aP0 (c:=67) (a:= []) (l:=32::l) (by decide) (by kernel_rfl) (fun x hx=>by cases hx) (bz0 l)
  show ah6 _ (67::32::l)= .fine 1 1
  unfold ah6
  rw [if_neg (by simp),if_neg (by rw [ad7 (by decide)];decide),if_neg (by rw [ad7 (by decide)];decide),if_neg (by rw [show ai8 (67::32::l)=false from rfl,ad7 (by decide)];simp),if_neg (by rw [ad7 (by decide),ad7 (by decide)];simp),if_neg (by rintro⟨_,h⟩;rw [ad7 (by decide)] at h;cases h),hn,if_pos (by decide)]
  unfold aft
  rw [if_neg (by have:=bL3 l;show¬((nx (32::l)).2<0);omega)])
theorem bF2 {l:List UInt8} {line:Bool} (hd:s.data.toList.drop p=10::l):btw s p line=btw s (p+1) true:=by
 have hlt:=bu0 hd
 have h1:ap9 (10::l)=true:=by
  unfold ap9
  rw [af4 _ _ (by decide)]
  rfl
 rw [ax9 s p line (by omega),hd,if_pos h1,af4 _ _ (by decide)]
 show btw s (p+1) (line||am4 10)=_
 rw [show am4 10=true from rfl,Bool.or_true]
theorem bA6 {a l:List UInt8} {t:Tk} (hd:s.data.toList.drop p=10::(a++l)) (hi:Ink0 (a++l)) (ht:Sees s 2 p t):t.line=true:=by
 obtain⟨h0,h1,q,n,h2,h3⟩:=ht
 have hlt:=bu0 hd
 have hb:btw s p false= .fine (p+1) true []:=(bF2 hd).trans (aK5 (aX3 hd) hlt ⟨hi.1,hi.2 _⟩)
 rw [Int.toNat_natCast] at h2
 unfold nxt tokT at h2
 rw [if_neg (by rintro(h|h|⟨h,_⟩)<;>omega),if_neg (by decide),hb] at h2
 simp only at h2
 rw [if_neg (by decide),if_neg (by decide),if_neg (by decide)] at h2
 split at h2
 ·injection h2 with _ _ _ e _
  exact e.symm
 ·cases h2
end
end
section
open Go.RowKit
section
variable {s:ByteArray} {m:Bool} {i j g g' fl ne ar ar2:Int} {t u v w a b c d e o tk:Tk} {n:Nd} {p:Ps} {f:Nat}
theorem bL2 {x:ByteArray} (hk:t.kind=1) (hx:t.text=x) (hd:(ag1 x resW||decide (x=⟨#[97,119,97,105,116]⟩)||decide (x=⟨#[97,115,121,110,99]⟩)||Lib.hasPrefix x.data.toList [47])=false):Nm t:=by
 subst hx
 rw [Bool.or_eq_false_iff,Bool.or_eq_false_iff,Bool.or_eq_false_iff,decide_eq_false_iff_not,decide_eq_false_iff_not] at hd
 exact⟨hk,hd.1.1.1,hd.1.1.2,hd.1.2,hd.2⟩
theorem bK7 (h5:u.kind≠5) (h7:u.kind≠7) (h8:u.kind≠8) (h1:nameT u ⟨#[105,110,115,116,97,110,99,101,111,102]⟩=false) (h2:nameT u ⟨#[105,110]⟩=false):Cls u:=by
 refine⟨⟨.inl (by rw [decide_eq_true h5,h1,h2];rfl),aa7 h5,aa7 h5,aa7 h5,aa7 h5,h7,h8,aa7 h5,aa7 h5⟩,aa7 h5,?_,aa7 h5,aa7 h5⟩
 unfold ae6
 rw [decide_eq_false h5]
 rfl
theorem bk2 {x:UInt8} (h:Opn x t) (hx:x≠47):ai1 t=false:=h.slash hx
theorem bk3 {x:UInt8} (h:Opn x u) (hx:x=41∨x=58∨x=59∨x=61∨x=63):Stp u:=by
 have hk:=h.kind
 refine⟨.inr (by rw [h.text];rcases hx with rfl|rfl|rfl|rfl|rfl<;>decide),?_⟩
 exact⟨h.no (by rcases hx with rfl|rfl|rfl|rfl|rfl<;>decide),h.no (by rcases hx with rfl|rfl|rfl|rfl|rfl<;>decide),h.no (by rcases hx with rfl|rfl|rfl|rfl|rfl<;>decide),h.no (by rcases hx with rfl|rfl|rfl|rfl|rfl<;>decide),by omega,by omega,h.no (by rcases hx with rfl|rfl|rfl|rfl|rfl<;>decide),h.no (by rcases hx with rfl|rfl|rfl|rfl|rfl<;>decide)⟩
theorem aF5 {x:UInt8} (h:Opn x u) (hx:x=41∨x=58∨x=59):Cls u:=by
 refine⟨bk3 h (by rcases hx with rfl|rfl|rfl<;>simp),h.no (by rcases hx with rfl|rfl|rfl<;>decide),?_,h.no (by rcases hx with rfl|rfl|rfl<;>decide),h.no (by rcases hx with rfl|rfl|rfl<;>decide)⟩
 unfold ae6
 rw [h.text]
 rcases hx with rfl|rfl|rfl<;>(rw [Bool.and_eq_false_iff];right;decide)
structure Nx (s:ByteArray) (j:Int) (c:Tk) (g:Int) (u:Tk):Prop where
 s1:Sees s 1 j u
 s2:Sees s 2 j u
 st:g=0∨(c=u∧(g=1∨g=2))
theorem Nx.peek (h:Nx s j c g u) (hs:ai1 u=false): ∃g',(g'=1∨g'=2)∧∀fl ne ar,ab2 s 2 (Zs j c g fl ne ar)= .ok u (Zs j u g' fl ne ar):=by
 rcases h.st with rfl|⟨rfl,hg⟩
 ·exact⟨2,.inr rfl,fun _ _ _=>ac2 h.s2⟩
 ·exact⟨g,hg,fun _ _ _=>ac3 hg hs (by decide)⟩
structure Clz (s:ByteArray) (j:Int) (e u:Tk):Prop where
 s1:Sees s 1 j e
 s2:Sees s 2 j e
 cls:Cls e
 sl:ai1 e=false
 semi:(Opn 59 e∧Sees s 1 e.till u∧Sees s 2 e.till u)∨(e=u∧e.kind≠5∧(e.kind=0∨e.line=true))
 usl:ai1 u=false
 uels:nameT u ⟨#[101,108,115,101]⟩=false
theorem ba0 (h:Clz s j e u): ∃j' c g',(∀fl ne ar,ae7 s (Zs j e 1 fl ne ar)= .ok () (Zs j' c g' fl ne ar))∧Nx s j' c g' u:=by
 rcases h.semi with ⟨h1,h2,h3⟩|⟨rfl,h1,h2⟩
 ·refine⟨e.till,e,0,fun fl ne ar=> ?_,h2,h3,.inl rfl⟩
  unfold ae7
  rw [PM.go (ac1 (by decide)),if_pos h1.yes,PM.go ak6]
  rfl
 ·refine⟨j,e,1,fun fl ne ar=> ?_,h.s1,h.s2,.inr ⟨rfl,.inl rfl⟩⟩
  unfold ae7
  rw [PM.go (ac1 (by decide)),if_neg (by rw [aa7 h1];decide),if_neg (by rcases h2 with h2|h2<;>rw [h2]<;>simp)]
  rfl
theorem aG4 {x:Nd} (hx:runQ s m f .expression p= .ok x (Zs j e 1 fl ne ar)) (h:Clz s j e u): ∃j' c g',runQ s m (f+1) (.simple t) p= .ok (.mk 57 ⟨#[]⟩ [x] t.from' j') (Zs j' c g' fl ne ar)∧Nx s j' c g' u:=by
 obtain⟨j',c,g',h1,h2⟩:=ba0 h
 refine⟨j',c,g',?_,h2⟩
 show aw8 s (runQ s m f) t p=_
 unfold aw8
 rw [PM.go hx,PM.go (h1 _ _ _)]
 rfl
theorem bC9 (hk:t.kind=1) (hw:ag1 t.text kwW=false) (hv:Sees s 1 t.till v) (hc:punctT v ⟨#[58]⟩=false) (p:Ps):runQ s m (f+1) (.statement t true) p=runQ s m f (.simple t) p:=by
 have h5:t.kind≠5:=by omega
 show aa9 s m (runQ s m f) t true p=_
 unfold aa9
 rw [if_neg (by decide),if_pos (.inr hw)]
 unfold ai4
 rw [if_neg (by decide),if_neg (by rw [aa7 h5];decide),if_neg (by rw [aa7 h5];decide),if_neg (by omega),if_neg (by rw [hw];decide),PM.go (aY9 hv _),PM.go (ap1 _),if_neg (by rw [hc];simp)]
theorem bt8 (hk:t.kind=4) (p:Ps):runQ s m (f+1) (.statement t true) p=runQ s m f (.simple t) p:=by
 have h5:t.kind≠5:=by omega
 show aa9 s m (runQ s m f) t true p=_
 unfold aa9
 rw [if_neg (by decide),if_pos (.inl (by omega))]
 unfold ai4
 rw [if_neg (by decide),if_neg (by rw [aa7 h5];decide),if_neg (by rw [aa7 h5];decide),if_pos (by omega)]
theorem aR9 (f:Nat) (h:Nm t) (hg:g=1∨g=2) (he:Cls e) (hs:Sees s 1 t.till e) (h0:0≤ne) (h1:ne<4000):runQ s m (f+10) .expression (Zs i t g 1 ne ar)= .ok (aa8 1 t) (Zs t.till e 1 1 ne t.from'):=
 ah8 (ap5 f h hg (ac3 hg h.sl (by decide)) hs he.stp he.q he.asg he.arr h0 h1) he.com
theorem aK1 (f:Nat) (h:Nm w) (hw:ag1 w.text kwW=false) (hs:Sees s 2 i w) (he:Clz s w.till e u) (hcol:punctT e ⟨#[58]⟩=false) (h0:0≤ne) (h1:ne<3999):
  ∃j c g',runQ s m (f+13) .alone (Zs i tk 0 1 ne ar)= .ok (.mk 57 ⟨#[]⟩ [aa8 1 w] w.from' j) (Zs j c g' 1 ne w.from')∧Nx s j c g' u:=by
 obtain⟨j,c,g',r1,r2⟩:=aG4 (t:=w) (aR9 (m:=m) (i:=i) (ne:=ne+1) (ar:=ar) f h (.inr rfl) he.cls he.s1 (by omega) (by omega)) he
 refine⟨j,c,g',?_,r2⟩
 show aD1 s (runQ s m (f+12)) _=_
 unfold aD1
 rw [PM.go (ac2 hs)]
 refine aC2 h0 (by omega) ?_
 show aa9 s m (runQ s m (f+11)) w false _=_
 unfold aa9
 rw [if_pos rfl]
 unfold aH9
 rw [if_neg (by rw [hw];have:=h.kind;simp [this]),PM.go (aY9 he.s1 _),PM.go (ap1 _),if_neg (by rw [hcol];simp)]
 exact r1
theorem bh3 (f:Nat) (hso:Sees s 1 i o) (ho:Opn 40 o) (hsa:Sees s 2 o.till a) (ha:Nm a) (hsc:Sees s 1 a.till c) (hc:Opn 41 c) (h0:0≤ne) (h1:ne<4000):
  runQ s m (f+12) .head (Zs i tk 0 1 ne ar)= .ok (aa8 1 a) (Zs c.till c 0 1 ne a.from'):=by
 have hcl:=aF5 hc (.inl rfl)
 have he:runQ s m (f+10) .expression (Zs o.till o 0 1 ne ar)= .ok (aa8 1 a) (Zs a.till c 1 1 ne a.from'):=
  ah8 (ap5 f ha (.inr rfl) (ac2 hsa) hsc hcl.stp hcl.q hcl.asg hcl.arr h0 h1) hcl.com
 have hi:runQ s m (f+11) .inner (Zs o.till o 0 1 ne ar)= .ok (aa8 1 a) (Zs a.till c 1 1 ne a.from'):=by
  show aE2 (runQ s m (f+10)) _=_
  unfold aE2
  exact ba6 he
 show aS1 s (runQ s m (f+11)) _=_
 unfold aS1
 rw [PM.go (ar7 (ac2 hso) ho.yes),PM.go hi,PM.go (ar7 (ac1 (by decide)) hc.yes)]
 rfl
theorem aS2 (hp:ab2 s 1 (Zs i tk g 1 ne ar)= .ok t (Zs i t g' 1 ne ar)) (h:Nm t):ae2 s m (Zs i tk g 1 ne ar)= .ok (aa8 1 t) (Zs t.till t 0 1 ne ar):=by
 unfold ae2
 rw [PM.go hp,PM.go (ap1 _)]
 show(if aj0 m 1 t=true then _ else _:PM Nd) _=_
 rw [if_pos (h.ident m 1),PM.go ak6]
 rfl
theorem bx2 {x:ByteArray} (hp:ab2 s 1 (Zs i tk g 1 ne ar)= .ok t (Zs i t g' 1 ne ar)) (h:nameT t x=false):aG9 s x (Zs i tk g 1 ne ar)= .ok false (Zs i t g' 1 ne ar):=by
 unfold aG9
 rw [PM.go hp,if_neg (by rw [h];decide)]
 rfl
theorem bj5 {x:ByteArray} (hp:ab2 s 1 (Zs i tk g 1 ne ar)= .ok t (Zs i t g' 1 ne ar)) (hk:t.kind=1) (hx:t.text=x):aF0 s x (Zs i tk g 1 ne ar)= .ok () (Zs t.till t 0 1 ne ar):=by
 have h:nameT t x=true:=by unfold nameT;rw [decide_eq_true hk,decide_eq_true hx];rfl
 have hw:aG9 s x (Zs i tk g 1 ne ar)= .ok true (Zs t.till t 0 1 ne ar):=by
  unfold aG9
  rw [PM.go hp,if_pos h,PM.go ak6]
  rfl
 unfold aF0
 rw [PM.go hw,if_pos rfl]
 rfl
theorem bu2 (f:Nat) (h:Nm t) (hg:g=1∨g=2) (hs:Sees s 1 t.till o) (hk:o.kind=5) (ho:o.text=⟨#[43,43]⟩) (hl:o.line=false) (ht:ah1 (aa8 1 t)=true):
  runQ s m (f+5) .unary (Zs i t g 1 ne ar)= .ok (.mk 28 ⟨#[120,43,43]⟩ [aa8 1 t] t.from' o.till) (Zs o.till o 0 1 ne ar):=by
 have hno: ∀x:ByteArray,(⟨#[43,43]⟩:ByteArray)≠x→punctT o x=false:=fun x hx=>aG0 (by rw [ho];exact hx)
 have hyes:punctT o ⟨#[43,43]⟩=true:=by unfold punctT;rw [hk,ho];rfl
 have hlink:runQ s m (f+3) (.link (aa8 1 t) true true) (Zs t.till o 1 1 ne ar)= .ok (aa8 1 t,false) (Zs t.till o 1 1 ne ar):=by
  show aE7 s (runQ s m (f+2)) (aa8 1 t) true true _=_
  unfold aE7
  rw [PM.go (ac1 (by decide)),if_neg (by rw [hno _ (by decide)];decide),if_neg (by rw [hno _ (by decide)];decide),if_neg (by rw [hno _ (by decide)];simp),if_neg (by omega)]
  rfl
 have hleft:runQ s m (f+4) .leftHand (Zs i t g 1 ne ar)= .ok (aa8 1 t) (Zs t.till o 1 1 ne ar):=by
  show ad4 s (f+3) (runQ s m (f+3)) _=_
  unfold ad4
  rw [PM.go (ac3 hg h.sl (by decide)),PM.go (ap1 _)]
  show(runQ s m (f+3) (.base t true)>>=_) _=_
  rw [PM.go (be8 f h hg true),if_neg (as5 t),if_neg (by rw [show decide ((aa8 1 t).text=⟨#[97,115,121,110,99]⟩)=false from decide_eq_false h.asy];simp)]
  unfold ad4.linkL
  rw [PM.go (ac2 hs),if_neg (by rw [hno _ (by decide)];decide),PM.go hlink,if_neg (show¬((false:Bool)=true) by decide)]
  rfl
 show aq4 s (runQ s m (f+4)) _=_
 unfold aq4
 rw [PM.go (ac3 hg h.sl (by decide)),if_neg (by rw [h.nameT (by decide),h.nameT (by decide),h.nameT (by decide),h.punctT,h.punctT,h.punctT,h.punctT];decide),PM.go (ap1 _),if_neg (by rw [ae3 h.aw];simp),if_neg (by rw [h.punctT,h.punctT];decide),PM.go hleft,if_neg (as5 t),PM.go (ac1 (by decide)),if_pos (by rw [hyes,hl];rfl)]
 have h2:(am2 (aa8 1 t):PM Unit) (Zs t.till o 1 1 ne ar)= .ok () (Zs t.till o 1 1 ne ar):=by
  unfold am2
  rw [if_pos ht]
  rfl
 rw [PM.go h2,PM.go ak6,ho]
 rfl
theorem by0 (f:Nat) (h2:t.kind≠2) (hy:nameT t ⟨#[121,105,101,108,100]⟩=false) (ha:nameT t ⟨#[97,115,121,110,99]⟩=false) (hs:ai1 t=false) (hg:g=1∨g=2)
  (hun:runQ s m (f+1) .unary (Zs i t g 1 (ne+1) t.from')= .ok n (Zs j tk 0 1 (ne+1) ar2)) (hk:n.kind≠22) (hse:Sees s 1 j e) (hu:Cls e) (hv:Sees s 1 t.till v) (hvr:punctT v ⟨#[61,62]⟩=false) (h0:0≤ne) (h1:ne<4000):
  runQ s m (f+6) .expression (Zs i t g 1 ne ar)= .ok n (Zs j e 1 1 ne ar2):=by
 have e1:runQ s m (f+2) (.operand 1) (Zs i t g 1 (ne+1) t.from')= .ok n (Zs j tk 0 1 (ne+1) ar2):=(aF3 (f:=f+1) 1 (ac3 hg hs (by decide)) h2).trans hun
 have e2:runQ s m (f+3) (.binary 1 false) (Zs i t g 1 (ne+1) t.from')= .ok n (Zs j e 1 1 (ne+1) ar2):=by
  show ak9 s (f+2) (runQ s m (f+2)) 1 false _=_
  unfold ak9
  rw [PM.go e1,if_neg hk]
  obtain⟨r,r1,r2⟩:=aF4 (s:=s) (i:=j) (ne:=ne+1) (ar:=ar2) hu.stp
  have r3:ai0 s (Zs j tk 0 1 (ne+1) ar2)= .ok r (Zs j e 1 1 (ne+1) ar2):=by
   rw [←r2]
   unfold ai0
   rw [PM.go (ac2 hse),PM.go (ac1 (by decide))]
  unfold ak9.opsL
  rw [PM.go r3,if_pos (.inr r1)]
  rfl
 refine ah8 (ap4 (f:=f+4) hy ha (ac3 hg hs (by decide)) hv hvr h0 h1 (aY2 (f:=f+3) e2 hk hu.q) (at8 hk hu.asg)) hu.com
theorem bF1 (hk:t.kind=3∨t.kind=4) (f:Nat):runQ s m (f+2) (.base t true) (Zs i t g 1 ne ar)= .ok (aa8 t.kind t) (Zs t.till t 0 1 ne ar):=by
 have h1:t.kind≠1:=by omega
 show aK4 s m (runQ s m (f+1)) t true _=_
 unfold aK4
 rw [if_neg (by rw [ag5 h1];decide),if_neg (by rw [ag5 h1];decide),if_neg (by rw [ag5 h1];decide)]
 show am8 (runQ s m f) t _=_
 unfold am8
 rw [if_pos hk,PM.go ak6]
 rfl
theorem aY1 (f:Nat) (hk:t.kind=3∨t.kind=4) (hp:ab2 s 2 p= .ok t (Zs i t g 1 ne ar)) (hg:g=1∨g=2) (hs:ai1 t=false) (hse:Sees s 1 t.till e) (he:Cls e) (h0:0≤ne) (h1:ne<4000):
  runQ s m (f+8) .assign p= .ok (aa8 t.kind t) (Zs t.till e 1 1 ne t.from'):=by
 have k1:t.kind≠1:=by omega
 have k5:t.kind≠5:=by omega
 have k22: ¬(aa8 t.kind t).kind=22:=by show¬t.kind=22;omega
 have hleft:runQ s m (f+3) .leftHand (Zs i t g 1 (ne+1) t.from')= .ok (aa8 t.kind t) (Zs t.till e 1 1 (ne+1) t.from'):=by
  show ad4 s (f+2) (runQ s m (f+2)) _=_
  unfold ad4
  rw [PM.go (ac3 hg hs (by decide)),PM.go (ap1 _)]
  show(runQ s m (f+2) (.base t true)>>=_) _=_
  rw [PM.go (bF1 hk f),if_neg k22,if_neg (by rw [show decide ((aa8 t.kind t).kind=1)=false from decide_eq_false k1];simp)]
  unfold ad4.linkL
  rw [PM.go (ac2 hse),if_neg (by rw [he.stp.e.opt];decide),PM.go (aS5 (f+1) _ true true he.stp.e (ac1 (by decide))),if_neg (show¬((false:Bool)=true) by decide)]
  rfl
 have hun:runQ s m (f+4) .unary (Zs i t g 1 (ne+1) t.from')= .ok (aa8 t.kind t) (Zs t.till e 1 1 (ne+1) t.from'):=by
  show aq4 s (runQ s m (f+3)) _=_
  unfold aq4
  rw [PM.go (ac3 hg hs (by decide)),if_neg (by rw [ag5 k1,ag5 k1,ag5 k1,aa7 k5,aa7 k5,aa7 k5,aa7 k5];decide),PM.go (ap1 _),if_neg (by rw [ag5 k1];simp),if_neg (by rw [aa7 k5,aa7 k5];decide),PM.go hleft,if_neg k22,PM.go (ac1 (by decide)),if_neg (by rw [he.stp.e.inc,he.stp.e.dec];simp)]
  rfl
 exact bv2 (f:=f+3) (by omega) (ag5 k1) (ag5 k1) hp (ac3 hg hs (by decide)) hun k22 he hse he.arr h0 h1
end
end
section
open Go.RowKit
def n57 (x:Nd):Nd:= .mk 57 ⟨#[]⟩ [x] 0 0
def lnN:Nat→Nd
 |0=>n57 (idN 97)
 |1=>n57 (.mk 30 ⟨#[61]⟩ [idN 97,idN 98] 0 0)
 |2=>n57 (.mk 35 ⟨#[]⟩ [idN 102,.mk 36 ⟨#[]⟩ [idN 120] 0 0] 0 0)
 |3=>n57 (.mk 28 ⟨#[120,43,43]⟩ [idN 120] 0 0)
 |4=> .mk 60 ⟨#[108,101,116]⟩ [.mk 61 ⟨#[]⟩ [idN 118,.mk 3 ⟨#[49]⟩ [] 0 0] 0 0] 0 0
 |5=> .mk 62 ⟨#[]⟩ [idN 97,n57 (idN 98),.zero] 0 0
 |6=> .mk 66 ⟨#[]⟩ [idN 97,n57 (idN 98)] 0 0
 |7=> .mk 67 ⟨#[]⟩ [n57 (idN 97),idN 98] 0 0
 |8=>n57 (.mk 1 ⟨#[98,114,101,97,107,95]⟩ [] 0 0)
 |9=> .mk 20 ⟨#[]⟩ [.mk 19 ⟨#[]⟩ [idN 102,.mk 21 ⟨#[]⟩ [] 0 0,.mk 58 ⟨#[]⟩ [] 0 0] 0 0] 0 0
 |10=> .mk 24 ⟨#[]⟩ [.mk 23 ⟨#[]⟩ [idN 67,.zero,.mk 25 ⟨#[]⟩ [] 0 0] 0 0] 0 0
 |11=> .mk 77 ⟨#[]⟩ [] 0 0
 |12=> .mk 71 ⟨#[]⟩ [idN 97] 0 0
 |13=> .mk 76 ⟨#[108]⟩ [n57 (idN 97)] 0 0
 |14=> .mk 60 ⟨#[118,97,114]⟩ [.mk 61 ⟨#[]⟩ [idN 119,.zero] 0 0] 0 0
 |15=>n57 (.mk 31 ⟨#[]⟩ [idN 97,idN 98,idN 99] 0 0)
 |_=>n57 (.mk 4 ⟨#[39,115,39]⟩ [] 0 0)
structure Fm (k:Nat) (n:Nd):Prop where
 bare:ac6 n=lnN k
 np:aj3 n=true
 sz:aa2 n≤9
 dir:if k=16 then n.kind=57∧∃t:Tk,n.kids= [aa8 4 t]∧t.text=⟨#[39,115,39]⟩ else n.kind=57→∃x,n.kids= [x]∧x.kind≠4
def StF (s:ByteArray) (m:Bool) (F:Nat) (i:Int) (t:Tk) (g ne ar:Int) (k:Nat) (u:Tk):Prop:=
 ∃n j c g' ar2,runQ s m F (.statement t true) (Zs i t g 1 ne ar)= .ok n (Zs j c g' 1 ne ar2)∧Nx s j c g' u∧Fm k n
theorem aY5 {l R:List UInt8} {a b:Nat} (ha:l.drop a=R) (hb:l.drop b=R) (h1:a≤l.length) (h2:b≤l.length):a=b:=by
 have e1:=congrArg List.length ha
 have e2:=congrArg List.length hb
 rw [List.length_drop] at e1 e2
 omega
section
variable {s:ByteArray} {m:Bool} {i j g g' fl ne ar ar2:Int} {t u v w a b c d e o tk:Tk} {n:Nd} {f p q p':Nat} {x y:UInt8} {r R:List UInt8}
theorem ar8 {k:Int} {z:ByteArray} (h:Tat s p k z R p' t) (hq:s.data.toList.drop q=R) (hs:q≤s.size):p'=q:=
 aY5 h.rest hq (by have:=h.le;rw [Array.length_toList];exact this) (by rw [Array.length_toList];exact hs)
theorem bw1 {gap l k:List UInt8} (hg:gap= []∨gap= [32]) (hd:s.data.toList.drop p=gap++(k++l)) (hp:p≤s.size) (hi:Ink0 (k++l)) (ht:Sees s 2 p t):t.line=false:=by
 obtain⟨h0,h1,q,n,h2,h3⟩:=ht
 have hb: ∃q',btw s p false= .fine q' false []:=by
  rcases hg with rfl|rfl
  ·exact⟨p,aK5 hd hp ⟨hi.1,hi.2 _⟩⟩
  ·have hlt:=bu0 hd
   have e1:ap9 (32::(k++l))=true:=by
    unfold ap9
    rw [af4 _ _ (by decide)]
    rfl
   refine⟨p+1,?_⟩
   rw [ax9 s p false (by omega),hd,List.singleton_append,if_pos e1,af4 _ _ (by decide)]
   exact aK5 (aX3 hd) hlt ⟨hi.1,hi.2 _⟩
 obtain⟨q',hb⟩:=hb
 rw [Int.toNat_natCast] at h2
 unfold nxt tokT at h2
 rw [if_neg (by rintro(h|h|⟨h,_⟩)<;>omega),if_neg (by decide),hb] at h2
 simp only at h2
 rw [if_neg (by decide),if_neg (by decide),if_neg (by decide)] at h2
 split at h2
 ·injection h2 with _ _ _ e _
  exact e.symm
 ·cases h2
theorem aJ6 (h:x=10∨x=59) (l:List UInt8):SepC (x::l):=sepc x l (by rcases h with rfl|rfl<;>simp)
theorem aj6 {z:ByteArray} (h:Tat s p 1 z R q t) (hd:(ag1 z resW||decide (z=⟨#[97,119,97,105,116]⟩)||decide (z=⟨#[97,115,121,110,99]⟩)||Lib.hasPrefix z.data.toList [47])=false):Nm t:=bL2 h.kind h.text hd
theorem aA4 {gap:List UInt8} (hg:GapL gap) (hx:low x) (hl:SepC R) (hd:s.data.toList.drop p=gap++(x::R)) (hp:p≤s.size): ∃p' t,Tat s p 1 ⟨#[x]⟩ R p' t:=
 bD5 (a:= []) hg hx (by simp) hl hd hp
theorem ay1 (h:Clz s j e u) (hx:x≠59):punctT e ⟨#[x]⟩=false:=by
 rcases h.semi with ⟨h,_⟩|⟨_,h,_⟩
 ·exact h.no (by intro h;injection h with h;injection h with h;injection h with h;exact hx h.symm)
 ·exact aa7 h
theorem bK9 {k:Nat} {z:Nd} {l:Int} (hk:k≠16) (hb:n57 (ac6 z)=lnN k) (hn:aj3 z=true) (hz:aa2 z≤8) (h4:z.kind≠4):Fm k (.mk 57 ⟨#[]⟩ [z] i l):=by
 refine⟨?_,?_,?_,?_⟩
 ·rw [←hb,bo4 (by decide)]
  rfl
 ·rw [aj3,ap2,ap2,hn]
  rfl
 ·rw [aa2,ad1,ad1]
  omega
 ·rw [if_neg hk]
  exact fun _=>⟨z,rfl,h4⟩
theorem aD8 {k:Nat} {z:Nd} (hk:k≠16) (ht:Nm t) (hw:ag1 t.text kwW=false) (hv:Sees s 1 t.till v) (hc:punctT v ⟨#[58]⟩=false) (hx:runQ s m f .expression (Zs i t g 1 ne ar)= .ok z (Zs j e 1 1 ne ar2)) (h:Clz s j e u) (hb:n57 (ac6 z)=lnN k) (hn:aj3 z=true) (hz:aa2 z≤8) (h4:z.kind≠4):
  StF s m (f+2) i t g ne ar k u:=by
 obtain⟨j',c,g',r1,r2⟩:=aG4 (t:=t) hx h
 exact⟨_,j',c,g',ar2,(bC9 (f:=f+1) ht.kind hw hv hc _).trans r1,r2,bK9 hk hb hn hz h4⟩
theorem al4 {k:Nat} (h57:n.kind≠57) (hk:k≠16) (hb:ac6 n=lnN k) (hn:aj3 n=true) (hz:aa2 n≤9):Fm k n:=
 ⟨hb,hn,hz,by rw [if_neg hk];exact fun h=>absurd h h57⟩
theorem bv6 (F:Nat) {k:Nat} (hk:k=0∨k=8) (ht:Tat s p 1 ⟨(fW k).toArray⟩ R q t) (h:Clz s q e u) (hg:g=1∨g=2) (h0:0≤ne) (h1:ne<3990):StF s m (F+12) i t g ne ar k u:=by
 have hn:Nm t:=by rcases hk with rfl|rfl<;>exact aj6 ht (by decide)
 have hx:=ht.text
 have htl:=ht.till
 rw [←htl] at h
 refine aD8 (f:=F+10) (by omega) hn (by rw [hx];rcases hk with rfl|rfl<;>decide) h.s1 (ay1 h (by decide)) (aR9 F hn hg h.cls h.s1 h0 (by omega)) h ?_ rfl (by show 1≤8;decide) (by show(1:Int)≠4;decide)
 rw [ag0,hx]
 rcases hk with rfl|rfl<;>rfl
theorem bF8 (F:Nat) (ht:Tat s p 1 ⟨#[97]⟩ (fR 1++x::r) p' t) (hx:x=10∨x=59) (hq:s.data.toList.drop q=x::r) (hqs:q≤s.size) (h:Clz s q e u) (hg:g=1∨g=2) (h0:0≤ne) (h1:ne<3990):StF s m (F+14) i t g ne ar 1 u:=by
 obtain⟨p1,o,ho⟩:=bD2 (c:=61) (gap:= [32]) (.inr (.inl rfl)) (.inl rfl) (l:=98::x::r) ht.rest ht.le
 obtain⟨p2,b,hb⟩:=aA4 (gap:= [32]) (x:=98) (.inr (.inl rfl)) (by decide) (aJ6 hx r) ho.rest ho.le
 obtain rfl:=ar8 hb hq hqs
 have hn:Nm t:=aj6 ht (by decide)
 have hbn:Nm b:=aj6 hb (by decide)
 have hop:=ho.opn
 have hso:=ho.seen (g:=1) (.inl rfl) ht.till
 have hbt:=hb.till
 rw [←hbt] at h
 have ha:=ap5 (m:=m) (i:=o.till) (ne:=ne+1) (ar:=t.from') F hbn (.inr rfl) (ac2 (tk:=o) (fl:=1) (hb.seen (.inr rfl) ho.till)) h.s1 h.cls.stp h.cls.q h.cls.asg h.cls.arr (by omega) (by omega)
 have hst:=bk3 hop (by simp)
 have hasg:ae6 o=true:=by unfold ae6;rw [hop.kind,hop.text];decide
 have htv:ah1 (aa8 1 t)=true:=by
  show aB0 (aa8 1 t)=true
  unfold aB0
  rw [if_pos (show(aa8 1 t).kind=1 from rfl),show(aa8 1 t).text=⟨#[97]⟩ from ht.text]
  decide
 have h3:=aN0 (i:=t.till) (as5 t) htv (show aa2 (aa8 1 t)≤_ by show 1≤_;decide) hasg ha
 have h4:=ah8 (ap4 (ae3 (hn.ne (by decide))) (ae3 hn.asy) (ac3 (i:=i) (ar:=ar) hg hn.sl (by decide)) hso (hop.no (by decide)) h0 (by omega) (aY2 (aD4 (F+2) hn hg (ac3 hg hn.sl (by decide)) hso hst) (as5 t) (hop.no (by decide))) h3) h.cls.com
 refine aD8 (f:=F+12) (by decide) hn (by rw [ht.text];decide) hso (hop.no (by decide)) h4 h ?_ rfl (by show 3≤8;decide) (by show(30:Int)≠4;decide)
 rw [ac4 (by decide),aa1,aa1,aa1,ag0,ag0,ht.text,hb.text,hop.text]
 rfl
theorem bp8 (f:Nat) (h:Nm t) (hg:g=1∨g=2) (hs:Sees s 1 t.till o) (ho:Opn 40 o) (ha:Nm a) (hsa:Sees s 2 o.till a) (hsc:Sees s 1 a.till c) (hc:Opn 41 c) (hse:Sees s 1 c.till e) (he:Cls e) (h0:0≤ne) (h1:ne<4000):
  runQ s m (f+15) .leftHand (Zs i t g 1 ne ar)= .ok (.mk 35 ⟨#[]⟩ [aa8 1 t,.mk 36 ⟨#[]⟩ [aa8 1 a] o.from' c.till] t.from' c.till) (Zs c.till e 1 1 ne a.from'):=by
 show ad4 s (f+14) (runQ s m (f+14)) _=_
 unfold ad4
 rw [PM.go (ac3 hg h.sl (by decide)),PM.go (ap1 _)]
 show(runQ s m (f+14) (.base t true)>>=_) _=_
 rw [PM.go (be8 (f+11) h hg true),if_neg (as5 t),if_neg (by rw [show decide ((aa8 1 t).text=⟨#[97,115,121,110,99]⟩)=false from decide_eq_false h.asy];simp)]
 unfold ad4.linkL
 rw [PM.go (ac2 hs),if_neg (by rw [ho.no (by decide)];decide),PM.go (br5 (f+1) (aa8 1 t) true (ac1 (by decide)) ho.yes ha hsa hsc hc.yes (aF5 hc (.inl rfl)) h0 h1),if_pos rfl]
 unfold ad4.linkL
 rw [PM.go (ac2 hse),if_neg (by rw [he.stp.e.opt];decide),PM.go (aS5 (f+13) _ true true he.stp.e (ac1 (by decide))),if_neg (show¬((false:Bool)=true) by decide)]
 rfl
theorem bF9 (F:Nat) (ht:Tat s p 1 ⟨#[102]⟩ (fR 2++x::r) p' t) (_hx:x=10∨x=59) (hq:s.data.toList.drop q=x::r) (hqs:q≤s.size) (h:Clz s q e u) (hg:g=1∨g=2) (h0:0≤ne) (h1:ne<3990):StF s m (F+23) i t g ne ar 2 u:=by
 obtain⟨p1,o,ho⟩:=au7 (c:=40) (gap:= []) (.inl rfl) (by simp) (l:=120::41::x::r) ht.rest ht.le
 obtain⟨p2,a,ha⟩:=aA4 (gap:= []) (x:=120) (.inl rfl) (by decide) (sepc 41 (x::r) (by simp)) ho.rest ho.le
 obtain⟨p3,c,hc⟩:=au7 (c:=41) (gap:= []) (.inl rfl) (by simp) (l:=x::r) ha.rest ha.le
 obtain rfl:=ar8 hc hq hqs
 have hn:Nm t:=aj6 ht (by decide)
 have han:Nm a:=aj6 ha (by decide)
 have hct:=hc.till
 rw [←hct] at h
 have hso:=ho.seen (g:=1) (.inl rfl) ht.till
 have hop:=ho.opn
 have hl:=bp8 (s:=s) (m:=m) (i:=i) (ne:=ne+1) (ar:=t.from') F hn hg hso hop han (ha.seen (.inr rfl) ho.till) (hc.seen (.inl rfl) ha.till) hc.opn h.s1 h.cls (by omega) (by omega)
 have hun:runQ s m (F+16) .unary (Zs i t g 1 (ne+1) t.from')= .ok (.mk 35 ⟨#[]⟩ [aa8 1 t,.mk 36 ⟨#[]⟩ [aa8 1 a] o.from' c.till] t.from' c.till) (Zs c.till e 1 1 (ne+1) a.from'):=by
  show aq4 s (runQ s m (F+15)) _=_
  unfold aq4
  rw [PM.go (ac3 hg hn.sl (by decide)),if_neg (by rw [hn.nameT (by decide),hn.nameT (by decide),hn.nameT (by decide),hn.punctT,hn.punctT,hn.punctT,hn.punctT];decide),PM.go (ap1 _),if_neg (by rw [ae3 hn.aw];simp),if_neg (by rw [hn.punctT,hn.punctT];decide),PM.go hl,if_neg (by show¬(35:Int)=22;decide),PM.go (ac1 (by decide)),if_neg (by rw [h.cls.stp.e.inc,h.cls.stp.e.dec];simp)]
  rfl
 have hk:=hn.kind
 have hex:=ah8 (bv2 (f:=F+15) (i:=i) (ar:=ar) (by omega) (ae3 (hn.ne (by decide))) (ae3 hn.asy) (ac3 hg hn.sl (by decide)) (ac3 hg hn.sl (by decide)) hun (by show¬(35:Int)=22;decide) h.cls hso (hop.no (by decide)) h0 (by omega)) h.cls.com
 refine aD8 (f:=F+21) (by decide) hn (by rw [ht.text];decide) hso (hop.no (by decide)) hex h ?_ rfl (by show 4≤8;decide) (by show(35:Int)≠4;decide)
 rw [ac4 (by decide),aa1,aa1,aa1,ac4 (by decide),aa1,aa1,ag0,ag0,ht.text,ha.text]
 rfl
theorem bG0 (F:Nat) (ht:Tat s p 1 ⟨#[120]⟩ (fR 3++x::r) p' t) (hx:x=10∨x=59) (hq:s.data.toList.drop q=x::r) (hqs:q≤s.size) (h:Clz s q e u) (hg:g=1∨g=2) (h0:0≤ne) (h1:ne<3990):StF s m (F+12) i t g ne ar 3 u:=by
 obtain⟨p1,o,ho⟩:=bJ9 hx (l:=r) ht.rest ht.le
 obtain rfl:=ar8 ho hq hqs
 have hn:Nm t:=aj6 ht (by decide)
 have hot:=ho.till
 rw [←hot] at h
 have hso:=ho.seen (g:=1) (.inl rfl) ht.till
 have hline:o.line=false:=bw1 (gap:= []) (k:= [43,43]) (l:=x::r) (.inl rfl) ht.rest ht.le (aL2 (by decide)) (ho.sees 2 (.inr rfl))
 have htv:ah1 (aa8 1 t)=true:=by
  show aB0 (aa8 1 t)=true
  unfold aB0
  rw [if_pos (show(aa8 1 t).kind=1 from rfl),show(aa8 1 t).text=⟨#[120]⟩ from ht.text]
  decide
 have hun:=bu2 (m:=m) (i:=i) (ne:=ne+1) (ar:=t.from') F hn hg hso ho.kind ho.text hline htv
 have hk:=hn.kind
 have hno: ∀z:ByteArray,(⟨#[43,43]⟩:ByteArray)≠z→punctT o z=false:=fun z hz=>aG0 (by rw [ho.text];exact hz)
 have hex:=by0 (f:=F+4) (ar:=ar) (by omega) (ae3 (hn.ne (by decide))) (ae3 hn.asy) hn.sl hg hun (by show¬(28:Int)=22;decide) h.s1 h.cls hso (hno _ (by decide)) h0 (by omega)
 refine aD8 (f:=F+10) (by decide) hn (by rw [ht.text];decide) hso (hno _ (by decide)) hex h ?_ rfl (by show 2≤8;decide) (by show(28:Int)≠4;decide)
 rw [ac4 (by decide),aa1,aa1,ag0,ht.text]
 rfl
theorem by7 (F:Nat) (ht:Tat s p 1 ⟨#[97]⟩ (fR 15++x::r) p' t) (hx:x=10∨x=59) (hq:s.data.toList.drop q=x::r) (hqs:q≤s.size) (h:Clz s q e u) (hg:g=1∨g=2) (h0:0≤ne) (h1:ne<3990):StF s m (F+15) i t g ne ar 15 u:=by
 obtain⟨p1,o,ho⟩:=bD2 (c:=63) (gap:= [32]) (.inr (.inl rfl)) (.inr rfl) (l:=98::32::58::32::99::x::r) ht.rest ht.le
 obtain⟨p2,b,hb⟩:=aA4 (gap:= [32]) (x:=98) (.inr (.inl rfl)) (by decide) (sepc 32 (58::32::99::x::r) (by simp)) ho.rest ho.le
 obtain⟨p3,d,hd⟩:=au7 (c:=58) (gap:= [32]) (.inr (.inl rfl)) (by simp) (l:=32::99::x::r) hb.rest hb.le
 obtain⟨p4,c,hc⟩:=aA4 (gap:= [32]) (x:=99) (.inr (.inl rfl)) (by decide) (aJ6 hx r) hd.rest hd.le
 obtain rfl:=ar8 hc hq hqs
 have hn:Nm t:=aj6 ht (by decide)
 have hbn:Nm b:=aj6 hb (by decide)
 have hcn:Nm c:=aj6 hc (by decide)
 have hct:=hc.till
 rw [←hct] at h
 have hso:=ho.seen (g:=1) (.inl rfl) ht.till
 have hop:=ho.opn
 have hdc:=aF5 hd.opn (.inr (.inl rfl))
 have hb1:=ap5 (m:=m) (i:=o.till) (ne:=ne+1) (ar:=t.from') F hbn (.inr rfl) (ac2 (tk:=o) (fl:=1) (hb.seen (.inr rfl) ho.till)) (hd.seen (.inl rfl) hb.till) hdc.stp hdc.q hdc.asg hdc.arr (by omega) (by omega)
 have hc1:=ap5 (m:=m) (i:=d.till) (ne:=ne+1) (ar:=b.from') (F+1) hcn (.inr rfl) (ac2 (tk:=d) (fl:=1) (hc.seen (.inr rfl) hd.till)) h.s1 h.cls.stp h.cls.q h.cls.asg h.cls.arr (by omega) (by omega)
 have hcy:=bo6 (aD4 (i:=i) (ar:=t.from') (F+3) hn hg (ac3 hg hn.sl (by decide)) hso (bk3 hop (by simp))) (as5 t) hop.yes hb1 hd.opn.yes hc1
 have hex:=ah8 (ap4 (ae3 (hn.ne (by decide))) (ae3 hn.asy) (ac3 (i:=i) (ar:=ar) hg hn.sl (by decide)) hso (hop.no (by decide)) h0 (by omega) hcy (at8 (show(31:Int)≠22 by decide) h.cls.asg)) h.cls.com
 refine aD8 (f:=F+13) (by decide) hn (by rw [ht.text];decide) hso (hop.no (by decide)) hex h ?_ rfl (by show 4≤8;decide) (by show(31:Int)≠4;decide)
 rw [ac4 (by decide),aa1,aa1,aa1,aa1,ag0,ag0,ag0,ht.text,hb.text,hc.text]
 rfl
theorem by8 (F:Nat) (ht:Tat s p 4 ⟨#[39,115,39]⟩ R q t) (h:Clz s q e u) (hg:g=1∨g=2) (h0:0≤ne) (h1:ne<3990):StF s m (F+11) i t g ne ar 16 u:=by
 have htl:=ht.till
 rw [←htl] at h
 have hk:=ht.kind
 have hsl:ai1 t=false:=by unfold ai1;rw [ht.text];exact ad7 (by decide)
 have hex:=ah8 (aY1 (m:=m) (i:=i) (ar:=ar) F (.inr hk) (ac3 hg hsl (by decide)) hg hsl h.s1 h.cls h0 (by omega)) h.cls.com
 obtain⟨j',c,g',r1,r2⟩:=aG4 (t:=t) hex h
 refine⟨_,j',c,g',_,(bt8 (f:=F+10) hk _).trans r1,r2,?_,by rw [hk];rfl,by show 2≤9;decide,?_⟩
 ·rw [ac4 (by decide),aa1,aa1,hk]
  unfold aa8
  rw [ac6,if_neg (by decide),aa1,ht.text]
  rfl
 ·rw [if_pos rfl,hk]
  exact⟨rfl,t,rfl,ht.text⟩
end
end
section
open Go.RowKit
section
variable {s:ByteArray} {m:Bool} {i j g g' fl ne ar ar2:Int} {t u v w a b c d e o tk:Tk} {n:Nd} {f p q p':Nat} {x y:UInt8} {r R:List UInt8}
theorem aL3 (hk:t.kind=1) (hw:ag1 t.text kwW=true) (p:Ps):runQ s m (f+1) (.statement t true) p=(
 if t.text=⟨#[118,97,114]⟩ then varN s (runQ s m f) t
 else if t.text=⟨#[108,101,116]⟩ then varN s (runQ s m f) t
 else if t.text=⟨#[102,117,110,99,116,105,111,110]⟩ then runQ s m f (.declaration true)
 else if t.text=⟨#[99,108,97,115,115]⟩ then runQ s m f (.declaration true)
 else if t.text=⟨#[105,102]⟩ then runQ s m f (.branch t)
 else if t.text=⟨#[119,104,105,108,101]⟩ then aB4 (runQ s m f) t
 else if t.text=⟨#[100,111]⟩ then doN s (runQ s m f) t
 else if t.text=⟨#[116,104,114,111,119]⟩ then aB3 s (runQ s m f) t
 else if t.text=⟨#[100,101,98,117,103,103,101,114]⟩ then al6 s t
 else outP:PM Nd) p:=by
 show aa9 s m (runQ s m f) t true p=_
 unfold aa9
 rw [if_neg (by decide),if_neg (by rintro(h|h);exact h hk;rw [hw] at h;cases h)]
theorem aI0 (hs:Sees s 1 i b) (h:Nm b) (h0:0≤ne) (h1:ne<4000):runQ s m (f+1) .binding (Zs i tk 0 1 ne ar)= .ok (aa8 1 b) (Zs b.till b 0 1 ne ar):=by
 show aq5 s m _=_
 unfold aq5
 rw [PM.go (ac2 hs)]
 refine aC2 h0 h1 ?_
 rw [if_neg (by rw [h.punctT,h.punctT];decide)]
 exact aS2 (ac1 (by decide)) h
theorem aR4 (f:Nat) {z:Nd} {ar3:Int} (hsb:Sees s 1 i b) (hb:Nm b) (hso:Sees s 1 b.till o) (ho:Opn 61 o) (hz:runQ s m (f+1) .assign (Zs o.till o 0 1 ne ar)= .ok z (Zs j e 1 1 ne ar3)) (he:Cls e) (h0:0≤ne) (h1:ne<4000):
  runQ s m (f+2) (.declared t none) (Zs i tk 0 1 ne ar)= .ok (.mk 60 t.text [.mk 61 ⟨#[]⟩ [aa8 1 b,z] b.from' j] t.from' j) (Zs j e 1 1 ne ar3):=by
 show ah7 s (runQ s m (f+1)) t _=_
 unfold ah7
 rw [PM.go (aI0 hsb hb h0 h1),PM.go (bi2 (ac2 hso) ho.yes),if_pos rfl,PM.go hz]
 show((isP s ⟨#[44]⟩)>>=_) _=_
 rw [PM.go (bi1 (ac1 (by decide)) he.com),if_neg (by decide)]
 rfl
theorem aR5 (f:Nat) (hsb:Sees s 1 i b) (hb:Nm b) (hse:Sees s 1 b.till e) (he:Cls e) (h61:punctT e ⟨#[61]⟩=false) (ht:t.text≠⟨#[99,111,110,115,116]⟩) (h0:0≤ne) (h1:ne<4000):
  runQ s m (f+2) (.declared t none) (Zs i tk 0 1 ne ar)= .ok (.mk 60 t.text [.mk 61 ⟨#[]⟩ [aa8 1 b,.zero] b.from' b.till] t.from' b.till) (Zs b.till e 1 1 ne ar):=by
 show ah7 s (runQ s m (f+1)) t _=_
 unfold ah7
 rw [PM.go (aI0 hsb hb h0 h1),PM.go (bi1 (ac2 hse) h61),if_neg (by decide),if_neg (by rintro(h|h);exact ht h;exact h rfl)]
 show((isP s ⟨#[44]⟩)>>=_) _=_
 rw [PM.go (bi1 (ac1 (by decide)) he.com),if_neg (by decide)]
 rfl
theorem bx1 (f:Nat) {z:Nd} {ar3:Int} (hz:runQ s m f (.declared t none) (Zs t.till t 0 1 ne ar)= .ok z (Zs j e 1 1 ne ar3)) (h:Clz s j e u): ∃j' c g',varN s (runQ s m f) t (Zs i t g 1 ne ar)= .ok (bd9 z j') (Zs j' c g' 1 ne ar3)∧Nx s j' c g' u:=by
 obtain⟨j',c,g',r1,r2⟩:=ba0 h
 refine⟨j',c,g',?_,r2⟩
 unfold varN
 rw [PM.go ak6,PM.go hz,PM.go (r1 _ _ _),PM.go (ap1 _)]
 rfl
theorem aL4 {z:ByteArray} (h:Tat s p 1 z R q t) (hw:ag1 z kwW=true):ag1 t.text kwW=true:=by rw [h.text];exact hw
theorem bG1 (F:Nat) (ht:Tat s p 1 ⟨#[108,101,116]⟩ (fR 4++x::r) p' t) (hx:x=10∨x=59) (hq:s.data.toList.drop q=x::r) (hqs:q≤s.size) (h:Clz s q e u) (h0:0≤ne) (h1:ne<3990):StF s m (F+10) i t g ne ar 4 u:=by
 obtain⟨p1,b,hb⟩:=aA4 (gap:= [32]) (x:=118) (.inr (.inl rfl)) (by decide) (sepc 32 (61::32::49::x::r) (by simp)) ht.rest ht.le
 obtain⟨p2,o,ho⟩:=bD2 (c:=61) (gap:= [32]) (.inr (.inl rfl)) (.inl rfl) (l:=49::x::r) hb.rest hb.le
 obtain⟨p3,d,hd⟩:=bL7 hx (l:=r) ho.rest ho.le
 obtain rfl:=ar8 hd hq hqs
 have hbn:Nm b:=aj6 hb (by decide)
 have hdt:=hd.till
 rw [←hdt] at h
 have hk:=hd.kind
 have hsl:ai1 d=false:=by unfold ai1;rw [hd.text];exact ad7 (by decide)
 have ha:=aY1 (m:=m) (ne:=ne) (ar:=ar) (p:=Zs o.till o 0 1 ne ar) F (.inl hk) (ac2 (hd.seen (.inr rfl) ho.till)) (.inr rfl) hsl h.s1 h.cls h0 (by omega)
 have hdc:=aR4 (t:=t) (tk:=t) (F+7) (hb.seen (.inl rfl) ht.till) hbn (ho.seen (.inl rfl) hb.till) ho.opn ha h.cls h0 (by omega)
 obtain⟨j',c,g',r1,r2⟩:=bx1 (i:=i) (g:=g) (F+9) hdc h
 have hst:=aL3 (s:=s) (m:=m) (f:=F+9) ht.kind (aL4 ht (by decide)) (Zs i t g 1 ne ar)
 rw [if_neg (by rw [ht.text];decide),if_pos ht.text,r1] at hst
 refine⟨_,j',c,g',_,hst,r2,al4 ?_ (by decide) ?_ ?_ ?_⟩
 ·show(60:Int)≠57
  decide
 ·unfold bd9
  rw [ac4 (by decide),aa1,aa1,ac4 (by decide),aa1,aa1,aa1,ag0,hk]
  unfold aa8
  rw [ac6,if_neg (by decide),aa1,ht.text,hb.text,hd.text]
  rfl
 ·rw [hk];rfl
 ·show 4≤9
  decide
theorem by6 (F:Nat) (ht:Tat s p 1 ⟨#[118,97,114]⟩ (fR 14++x::r) p' t) (hx:x=10∨x=59) (hq:s.data.toList.drop q=x::r) (hqs:q≤s.size) (h:Clz s q e u) (h0:0≤ne) (h1:ne<3990):StF s m (F+3) i t g ne ar 14 u:=by
 obtain⟨p1,b,hb⟩:=aA4 (gap:= [32]) (x:=119) (.inr (.inl rfl)) (by decide) (aJ6 hx r) ht.rest ht.le
 obtain rfl:=ar8 hb hq hqs
 have hbn:Nm b:=aj6 hb (by decide)
 have hbt:=hb.till
 rw [←hbt] at h
 have hdc:=aR5 (m:=m) (t:=t) (tk:=t) (ne:=ne) (ar:=ar) F (hb.seen (.inl rfl) ht.till) hbn h.s1 h.cls (ay1 h (by decide)) (by rw [ht.text];decide) h0 (by omega)
 obtain⟨j',c,g',r1,r2⟩:=bx1 (i:=i) (g:=g) (F+2) hdc h
 have hst:=aL3 (s:=s) (m:=m) (f:=F+2) ht.kind (aL4 ht (by decide)) (Zs i t g 1 ne ar)
 rw [if_pos ht.text,r1] at hst
 refine⟨_,j',c,g',_,hst,r2,al4 ?_ (by decide) ?_ rfl ?_⟩
 ·show(60:Int)≠57
  decide
 ·unfold bd9
  rw [ac4 (by decide),aa1,aa1,ac4 (by decide),aa1,aa1,aa1,ag0,ht.text,hb.text]
  rfl
 ·show 4≤9
  decide
theorem bh2 (hdr:s.data.toList.drop p= [32,40,97,41,32,98]++x::r) (hp:p≤s.size) (hx:x=10∨x=59) (hq:s.data.toList.drop q=x::r) (hqs:q≤s.size) (h:Clz s q e u) (h0:0≤ne) (h1:ne<3990) (hi:i=(p:Int)) (F:Nat):
  ∃a b c tk' j c' g' ar2,a.text=⟨#[97]⟩∧b.text=⟨#[98]⟩∧runQ s m (F+13) .head (Zs i tk 0 1 ne ar)= .ok (aa8 1 a) (Zs c tk' 0 1 ne ar2)∧runQ s m (F+13) .alone (Zs c tk' 0 1 ne ar2)= .ok (.mk 57 ⟨#[]⟩ [aa8 1 b] b.from' j) (Zs j c' g' 1 ne b.from')∧Nx s j c' g' u:=by
 subst hi
 obtain⟨p1,o,ho⟩:=au7 (c:=40) (gap:= [32]) (.inr (.inl rfl)) (by simp) (l:=97::41::32::98::x::r) hdr hp
 obtain⟨p2,a,ha⟩:=aA4 (gap:= []) (x:=97) (.inl rfl) (by decide) (sepc 41 (32::98::x::r) (by simp)) ho.rest ho.le
 obtain⟨p3,c,hc⟩:=au7 (c:=41) (gap:= []) (.inl rfl) (by simp) (l:=32::98::x::r) ha.rest ha.le
 obtain⟨p4,b,hb⟩:=aA4 (gap:= [32]) (x:=98) (.inr (.inl rfl)) (by decide) (aJ6 hx r) hc.rest hc.le
 obtain rfl:=ar8 hb hq hqs
 have han:Nm a:=aj6 ha (by decide)
 have hbn:Nm b:=aj6 hb (by decide)
 have hbt:=hb.till
 rw [←hbt] at h
 have hh:=bh3 (s:=s) (m:=m) (i:=(p:Int)) (tk:=tk) (ar:=ar) (F+1) (ho.sees 1 (.inl rfl)) ho.opn (ha.seen (.inr rfl) ho.till) han (hc.seen (.inl rfl) ha.till) hc.opn h0 (by omega)
 obtain⟨j,c',g',r1,r2⟩:=aK1 (m:=m) (tk:=c) (ar:=a.from') F hbn (by rw [hb.text];decide) (hb.seen (.inr rfl) hc.till) h (ay1 h (by decide)) h0 (by omega)
 exact⟨a,b,c.till,c,j,c',g',_,ha.text,hb.text,hh,r1,r2⟩
theorem bG2 (F:Nat) (ht:Tat s p 1 ⟨#[105,102]⟩ (fR 5++x::r) p' t) (hx:x=10∨x=59) (hq:s.data.toList.drop q=x::r) (hqs:q≤s.size) (h:Clz s q e u) (h0:0≤ne) (h1:ne<3990):StF s m (F+15) i t g ne ar 5 u:=by
 obtain⟨a,b,c,tk',j,c',g',ar2,hat,hbt,r1,r2,r3⟩:=bh2 (m:=m) (tk:=t) (ar:=ar) ht.rest ht.le hx hq hqs h h0 h1 ht.till F
 obtain⟨g2,hg2,hpk⟩:=r3.peek h.usl
 have hb:runQ s m (F+14) (.branch t) (Zs i t g 1 ne ar)= .ok (.mk 62 ⟨#[]⟩ [aa8 1 a,.mk 57 ⟨#[]⟩ [aa8 1 b] b.from' j,.zero] t.from' j) (Zs j u g2 1 ne b.from'):=by
  show av4 s (runQ s m (F+13)) t _=_
  unfold av4
  rw [PM.go ak6,PM.go r1,PM.go r2,PM.go (hpk _ _ _),if_neg (by rw [h.uels];decide)]
  rfl
 have hst:=aL3 (s:=s) (m:=m) (f:=F+14) ht.kind (aL4 ht (by decide)) (Zs i t g 1 ne ar)
 rw [if_neg (by rw [ht.text];decide),if_neg (by rw [ht.text];decide),if_neg (by rw [ht.text];decide),if_neg (by rw [ht.text];decide),if_pos ht.text,hb] at hst
 refine⟨_,j,u,g2,_,hst,⟨r3.s1,r3.s2,.inr ⟨rfl,hg2⟩⟩,al4 (by show(62:Int)≠57;decide) (by decide) ?_ rfl (by show 5≤9;decide)⟩
 rw [ac4 (by decide),aa1,aa1,aa1,aa1,ac4 (by decide),aa1,aa1,ag0,ag0,hat,hbt]
 rfl
theorem bG3 (F:Nat) (ht:Tat s p 1 ⟨#[119,104,105,108,101]⟩ (fR 6++x::r) p' t) (hx:x=10∨x=59) (hq:s.data.toList.drop q=x::r) (hqs:q≤s.size) (h:Clz s q e u) (h0:0≤ne) (h1:ne<3990):StF s m (F+14) i t g ne ar 6 u:=by
 obtain⟨a,b,c,tk',j,c',g',ar2,hat,hbt,r1,r2,r3⟩:=bh2 (m:=m) (tk:=t) (ar:=ar) ht.rest ht.le hx hq hqs h h0 h1 ht.till F
 have hb:aB4 (runQ s m (F+13)) t (Zs i t g 1 ne ar)= .ok (.mk 66 ⟨#[]⟩ [aa8 1 a,.mk 57 ⟨#[]⟩ [aa8 1 b] b.from' j] t.from' j) (Zs j c' g' 1 ne b.from'):=by
  unfold aB4
  rw [PM.go ak6,PM.go r1,PM.go r2]
  rfl
 have hst:=aL3 (s:=s) (m:=m) (f:=F+13) ht.kind (aL4 ht (by decide)) (Zs i t g 1 ne ar)
 rw [if_neg (by rw [ht.text];decide),if_neg (by rw [ht.text];decide),if_neg (by rw [ht.text];decide),if_neg (by rw [ht.text];decide),if_neg (by rw [ht.text];decide),if_pos ht.text,hb] at hst
 refine⟨_,j,c',g',_,hst,r3,al4 (by show(66:Int)≠57;decide) (by decide) ?_ rfl (by show 4≤9;decide)⟩
 rw [ac4 (by decide),aa1,aa1,aa1,ac4 (by decide),aa1,aa1,ag0,ag0,hat,hbt]
 rfl
theorem bG4 (F:Nat) (ht:Tat s p 1 ⟨#[100,111]⟩ (fR 7++x::r) p' t) (hq:s.data.toList.drop q=x::r) (hqs:q≤s.size) (h:Clz s q e u) (h0:0≤ne) (h1:ne<3990):StF s m (F+14) i t g ne ar 7 u:=by
 obtain⟨p1,a,ha⟩:=aA4 (gap:= [32]) (x:=97) (.inr (.inl rfl)) (by decide) (sepc 59 (32::119::104::105::108::101::32::40::98::41::x::r) (by simp)) ht.rest ht.le
 obtain⟨p2,d,hd⟩:=au7 (c:=59) (gap:= []) (.inl rfl) (by simp) (l:=32::119::104::105::108::101::32::40::98::41::x::r) ha.rest ha.le
 obtain⟨p3,w,hw⟩:=bD5 (c:=119) (gap:= [32]) (a:= [104,105,108,101]) (.inr (.inl rfl)) (by decide) (fun y hy=>br9 (by revert y;decide)) (sepc 32 (40::98::41::x::r) (by simp)) hd.rest hd.le
 obtain⟨p4,o,ho⟩:=au7 (c:=40) (gap:= [32]) (.inr (.inl rfl)) (by simp) (l:=98::41::x::r) hw.rest hw.le
 obtain⟨p5,b,hb⟩:=aA4 (gap:= []) (x:=98) (.inl rfl) (by decide) (sepc 41 (x::r) (by simp)) ho.rest ho.le
 obtain⟨p6,c,hc⟩:=au7 (c:=41) (gap:= []) (.inl rfl) (by simp) (l:=x::r) hb.rest hb.le
 obtain rfl:=ar8 hc hq hqs
 have han:Nm a:=aj6 ha (by decide)
 have hbn:Nm b:=aj6 hb (by decide)
 have hct:=hc.till
 rw [←hct] at h
 have hwsl:ai1 w=false:=by unfold ai1;rw [hw.text];exact ad7 (by decide)
 have hclo:Clz s a.till d w:=⟨hd.seen (.inl rfl) ha.till,hd.seen (.inr rfl) ha.till,aF5 hd.opn (by simp),bk2 hd.opn (by decide),.inl ⟨hd.opn,hw.seen (.inl rfl) hd.till,hw.seen (.inr rfl) hd.till⟩,hwsl,ae3 (by rw [hw.text];decide)⟩
 obtain⟨j,c',g',r1,r2⟩:=aK1 (m:=m) (tk:=t) (ar:=ar) F han (by rw [ha.text];decide) (ha.seen (.inr rfl) ht.till) hclo (ay1 hclo (by decide)) h0 (by omega)
 obtain⟨g2,hg2,hpk⟩:=r2.peek hwsl
 have hh:=bh3 (s:=s) (m:=m) (i:=w.till) (tk:=w) (ar:=a.from') (F+1) (ho.seen (.inl rfl) hw.till) ho.opn (hb.seen (.inr rfl) ho.till) hbn (hc.seen (.inl rfl) hb.till) hc.opn h0 (by omega)
 have hb2: ∃j2 c2 g3,doN s (runQ s m (F+13)) t (Zs i t g 1 ne ar)= .ok (.mk 67 ⟨#[]⟩ [.mk 57 ⟨#[]⟩ [aa8 1 a] a.from' j,aa8 1 b] t.from' j2) (Zs j2 c2 g3 1 ne b.from')∧Nx s j2 c2 g3 u:=by
  unfold doN
  rw [PM.go ak6,PM.go r1,PM.go (hpk _ _ _),PM.go (bj5 (ac3 hg2 hwsl (by decide)) hw.kind hw.text),PM.go hh,PM.go (ac2 h.s2)]
  rcases h.semi with ⟨k1,k2,k3⟩|⟨rfl,k1,k2⟩
  ·refine⟨e.till,e,0,?_,k2,k3,.inl rfl⟩
   rw [if_pos k1.yes,PM.go ak6]
   rfl
  ·refine⟨c.till,e,2,?_,h.s1,h.s2,.inr ⟨rfl,.inr rfl⟩⟩
   rw [if_neg (by rw [aa7 k1];decide)]
   rfl
 obtain⟨j2,c2,g3,r4,r5⟩:=hb2
 have hst:=aL3 (s:=s) (m:=m) (f:=F+13) ht.kind (aL4 ht (by decide)) (Zs i t g 1 ne ar)
 rw [if_neg (by rw [ht.text];decide),if_neg (by rw [ht.text];decide),if_neg (by rw [ht.text];decide),if_neg (by rw [ht.text];decide),if_neg (by rw [ht.text];decide),if_neg (by rw [ht.text];decide),if_pos ht.text,r4] at hst
 refine⟨_,j2,c2,g3,_,hst,r5,al4 (by show(67:Int)≠57;decide) (by decide) ?_ rfl (by show 4≤9;decide)⟩
 rw [ac4 (by decide),aa1,aa1,aa1,ac4 (by decide),aa1,aa1,ag0,ag0,ha.text,hb.text]
 rfl
theorem by3 (F:Nat) (ht:Tat s p 1 ⟨#[100,101,98,117,103,103,101,114]⟩ R q t) (h:Clz s q e u):StF s m (F+1) i t g ne ar 11 u:=by
 have htl:=ht.till
 rw [←htl] at h
 obtain⟨j',c,g',r1,r2⟩:=ba0 h
 have r3:ae7 s (Zs t.till t 0 1 ne ar)= .ok () (Zs j' c g' 1 ne ar):=by
  rw [←r1]
  unfold ae7
  rw [PM.go (ac2 h.s1),PM.go (ac1 (by decide))]
 have hb:al6 s t (Zs i t g 1 ne ar)= .ok (.mk 77 ⟨#[]⟩ [] t.from' j') (Zs j' c g' 1 ne ar):=by
  unfold al6
  rw [PM.go ak6,PM.go r3]
  rfl
 have hst:=aL3 (s:=s) (m:=m) (f:=F) ht.kind (aL4 ht (by decide)) (Zs i t g 1 ne ar)
 rw [if_neg (by rw [ht.text];decide),if_neg (by rw [ht.text];decide),if_neg (by rw [ht.text];decide),if_neg (by rw [ht.text];decide),if_neg (by rw [ht.text];decide),if_neg (by rw [ht.text];decide),if_neg (by rw [ht.text];decide),if_neg (by rw [ht.text];decide),if_pos ht.text,hb] at hst
 exact⟨_,j',c,g',_,hst,r2,al4 (by show(77:Int)≠57;decide) (by decide) rfl rfl (by show 1≤9;decide)⟩
theorem by4 (F:Nat) (ht:Tat s p 1 ⟨#[116,104,114,111,119]⟩ (fR 12++x::r) p' t) (hx:x=10∨x=59) (hq:s.data.toList.drop q=x::r) (hqs:q≤s.size) (h:Clz s q e u) (h0:0≤ne) (h1:ne<3990):StF s m (F+11) i t g ne ar 12 u:=by
 obtain⟨p1,a,ha⟩:=aA4 (gap:= [32]) (x:=97) (.inr (.inl rfl)) (by decide) (aJ6 hx r) ht.rest ht.le
 obtain rfl:=ar8 ha hq hqs
 have han:Nm a:=aj6 ha (by decide)
 have hat:=ha.till
 rw [←hat] at h
 have hl:a.line=false:=bw1 (gap:= [32]) (k:= [97]) (l:=x::r) (.inr rfl) ht.rest ht.le (aL2 (by decide)) (ha.sees 2 (.inr rfl))
 have hex:=aR9 (m:=m) (i:=t.till) (g:=2) (ar:=ar) F han (.inr rfl) h.cls h.s1 h0 (by omega)
 obtain⟨j',c,g',r1,r2⟩:=ba0 h
 have hb:aB3 s (runQ s m (F+10)) t (Zs i t g 1 ne ar)= .ok (.mk 71 ⟨#[]⟩ [aa8 1 a] t.from' j') (Zs j' c g' 1 ne a.from'):=by
  unfold aB3
  rw [PM.go ak6,PM.go (ac2 (ha.seen (.inr rfl) ht.till)),if_neg (by rw [hl];decide),PM.go hex,PM.go (r1 _ _ _)]
  rfl
 have hst:=aL3 (s:=s) (m:=m) (f:=F+10) ht.kind (aL4 ht (by decide)) (Zs i t g 1 ne ar)
 rw [if_neg (by rw [ht.text];decide),if_neg (by rw [ht.text];decide),if_neg (by rw [ht.text];decide),if_neg (by rw [ht.text];decide),if_neg (by rw [ht.text];decide),if_neg (by rw [ht.text];decide),if_neg (by rw [ht.text];decide),if_pos ht.text,hb] at hst
 refine⟨_,j',c,g',_,hst,r2,al4 (by show(71:Int)≠57;decide) (by decide) ?_ rfl (by show 2≤9;decide)⟩
 rw [ac4 (by decide),aa1,aa1,ag0,ha.text]
 rfl
theorem by5 (F:Nat) (ht:Tat s p 1 ⟨#[108]⟩ (fR 13++x::r) p' t) (hx:x=10∨x=59) (hq:s.data.toList.drop q=x::r) (hqs:q≤s.size) (h:Clz s q e u) (_hg:g=1∨g=2) (h0:0≤ne) (h1:ne<3990):StF s m (F+14) i t g ne ar 13 u:=by
 obtain⟨p1,d,hd⟩:=au7 (c:=58) (gap:= []) (.inl rfl) (by simp) (l:=32::97::x::r) ht.rest ht.le
 obtain⟨p2,a,ha⟩:=aA4 (gap:= [32]) (x:=97) (.inr (.inl rfl)) (by decide) (aJ6 hx r) hd.rest hd.le
 obtain rfl:=ar8 ha hq hqs
 have hn:Nm t:=aj6 ht (by decide)
 have han:Nm a:=aj6 ha (by decide)
 have hat:=ha.till
 rw [←hat] at h
 obtain⟨j,c',g',r1,r2⟩:=aK1 (m:=m) (tk:=d) (ar:=ar) F han (by rw [ha.text];decide) (ha.seen (.inr rfl) hd.till) h (ay1 h (by decide)) h0 (by omega)
 have hk:=ht.kind
 have h5:t.kind≠5:=by omega
 have hsd:=hd.seen (g:=1) (.inl rfl) ht.till
 have hst:runQ s m (F+14) (.statement t true) (Zs i t g 1 ne ar)= .ok (.mk 76 t.text [.mk 57 ⟨#[]⟩ [aa8 1 a] a.from' j] t.from' j) (Zs j c' g' 1 ne a.from'):=by
  show aa9 s m (runQ s m (F+13)) t true _=_
  unfold aa9
  rw [if_neg (by decide),if_pos (.inr (by rw [ht.text];decide))]
  unfold ai4
  rw [if_neg (by decide),if_neg (by rw [aa7 h5];decide),if_neg (by rw [aa7 h5];decide),if_neg (by omega),if_neg (by rw [ht.text];decide),PM.go (aY9 hsd _),PM.go (ap1 _),if_pos (by rw [hn.ident,hd.opn.yes];rfl),PM.go ak6,PM.go (ar7 (ac2 hsd) hd.opn.yes),PM.go r1]
  rfl
 refine⟨_,j,c',g',_,hst,r2,al4 (by show(76:Int)≠57;decide) (by decide) ?_ rfl (by show 3≤9;decide)⟩
 rw [ac4 (by decide),aa1,aa1,ac4 (by decide),aa1,aa1,ag0,ht.text,ha.text]
 rfl
theorem bC6:setF 1 1 6=1:=by kernel_rfl
theorem bE3 {α:Type} {z:PM α} {y:α} {i' g' ar':Int} {u':Tk} (hx:z (Zs i u g 1 ne ar)= .ok y (Zs i' u' g' 1 ne ar')):an0 1 6 z (Zs i u g 1 ne ar)= .ok y (Zs i' u' g' 1 ne ar'):=by
 have e:({ Zs i u g 1 ne ar with flags:=setF (Zs i u g 1 ne ar).flags 1 6 } :Ps)=Zs i u g 1 ne ar:=by
  show(⟨i,u,[],g,[],setF 1 1 6,ne,ar,[]⟩:Ps)=_
  rw [bC6]
  rfl
 unfold an0
 rw [e]
 unfold PM.bind
 rw [hx]
 rfl
theorem bv7 (F:Nat) (ht:Tat s p 1 ⟨#[102,117,110,99,116,105,111,110]⟩ (fR 9++R) p' t) (hq:s.data.toList.drop q=R) (hqs:q≤s.size) (h1:Sees s 1 q u) (h2:Sees s 2 q u) (hg:g=1∨g=2):StF s m (F+7) i t g ne ar 9 u:=by
 obtain⟨p1,b,hb⟩:=aA4 (gap:= [32]) (x:=102) (.inr (.inl rfl)) (by decide) (sepc 40 (41::32::123::125::R) (by simp)) ht.rest ht.le
 obtain⟨p2,o,ho⟩:=au7 (c:=40) (gap:= []) (.inl rfl) (by simp) (l:=41::32::123::125::R) hb.rest hb.le
 obtain⟨p3,c,hc⟩:=au7 (c:=41) (gap:= []) (.inl rfl) (by simp) (l:=32::123::125::R) ho.rest ho.le
 obtain⟨p4,w,hw⟩:=au7 (c:=123) (gap:= [32]) (.inr (.inl rfl)) (by simp) (l:=125::R) hc.rest hc.le
 obtain⟨p5,v,hv⟩:=au7 (c:=125) (gap:= []) (.inl rfl) (by simp) (l:=R) hw.rest hw.le
 obtain rfl:=ar8 hv hq hqs
 have hvt:=hv.till
 rw [←hvt] at h1 h2
 have hbn:Nm b:=aj6 hb (by decide)
 have hk:=ht.kind
 have htx:=ht.text
 have hsl:ai1 t=false:=by unfold ai1;rw [htx];exact ad7 (by decide)
 have hso:=ho.seen (g:=1) (.inl rfl) hb.till
 have hsc:=hc.seen (g:=1) (.inl rfl) ho.till
 have hf:runQ s m (F+3) (.formals ⟨#[]⟩) (Zs b.till b 0 1 ne ar)= .ok (.mk 21 ⟨#[]⟩ [] o.from' c.till) (Zs c.till c 0 1 ne ar):=by
  show aq7 s (F+2) ⟨#[]⟩ _=_
  unfold aq7
  have hl:as0 s ⟨#[41]⟩ 1 (fun _:Unit=>outP) (F+2) () false (Zs o.till o 0 1 ne ar)= .ok ((),false) (Zs c.till c 0 1 ne ar):=by
   unfold as0
   rw [PM.go (ac2 hsc),if_pos hc.opn.yes,PM.go ak6]
   rfl
  rw [if_neg (by decide),PM.go (ar7 (ac2 hso) ho.opn.yes),PM.go hl]
  rfl
 have hbody:runQ s m (F+3) .function (Zs c.till c 0 1 ne ar)= .ok (.mk 58 ⟨#[]⟩ [] w.from' v.till) (Zs v.till v 0 1 ne ar):=by
  show an8 s (runQ s m (F+2)) _=_
  unfold an8
  apply ba6
  have hst:runQ s m (F+2) (.statements true false 1) (Zs w.till w 0 1 ne ar)= .ok [] (Zs w.till v 2 1 ne ar):=by
   show dirL s (runQ s m (F+1)) false 1 (F+1) true [] _=_
   unfold dirL
   rw [PM.go (ac2 (hv.seen (.inr rfl) hw.till)),if_pos (by unfold endB;rw [if_neg (by decide),if_pos rfl];exact hv.opn.yes)]
   rfl
  rw [PM.go (ac2 (hw.seen (.inr rfl) hc.till)),PM.go (ar7 (aT0 (by decide) (by decide) (by decide) (bk2 hw.opn (by decide))) hw.opn.yes),PM.go hst,PM.go ak6]
  rfl
 have hcall:runQ s m (F+4) (.callable ⟨#[]⟩ t.from' (aa8 1 b) ⟨#[]⟩) (Zs b.till b 0 1 ne ar)= .ok (.mk 19 ⟨#[]⟩ [aa8 1 b,.mk 21 ⟨#[]⟩ [] o.from' c.till,.mk 58 ⟨#[]⟩ [] w.from' v.till] t.from' v.till) (Zs v.till v 0 1 ne ar):=by
  show ai5 (runQ s m (F+3)) ⟨#[]⟩ t.from' (aa8 1 b) ⟨#[]⟩ _=_
  unfold ai5
  rw [if_neg (by rintro(h|h);exact h rfl;exact h rfl),if_neg (by decide),if_pos rfl]
  apply bE3
  rw [PM.go hf,PM.go hbody]
  rfl
 have hfun:runQ s m (F+5) (.funcs true) (Zs i t g 1 ne ar)= .ok (.mk 19 ⟨#[]⟩ [aa8 1 b,.mk 21 ⟨#[]⟩ [] o.from' c.till,.mk 58 ⟨#[]⟩ [] w.from' v.till] t.from' v.till) (Zs v.till v 0 1 ne ar):=by
  show aD9 s m (runQ s m (F+4)) true _=_
  unfold aD9
  have hpk:ab2 s 1 (Zs i t g 1 ne ar)= .ok t (Zs i t g 1 ne ar):=ac3 hg hsl (by decide)
  rw [if_neg (by decide),PM.go (ap1 _),PM.go (bx2 hpk (ae3 (by rw [htx];decide))),if_neg (by decide),PM.go (bj5 hpk hk htx),PM.go (bi1 (ac2 (hb.seen (.inl rfl) ht.till)) (hbn.punctT _)),if_neg (by decide),PM.go (aS2 (ac1 (by decide)) hbn)]
  exact hcall
 have hdec:runQ s m (F+6) (.declaration true) (Zs i t g 1 ne ar)= .ok (.mk 20 ⟨#[]⟩ [.mk 19 ⟨#[]⟩ [aa8 1 b,.mk 21 ⟨#[]⟩ [] o.from' c.till,.mk 58 ⟨#[]⟩ [] w.from' v.till] t.from' v.till] t.from' v.till) (Zs v.till v 0 1 ne ar):=by
  show af7 (runQ s m (F+5)) true _=_
  unfold af7
  rw [PM.go (ap1 _),if_neg (by rw [show nameT (Zs i t g 1 ne ar).tok ⟨#[99,108,97,115,115]⟩=false from ae3 (by rw [show (Zs i t g 1 ne ar).tok=t from rfl,htx];decide)];decide),PM.go hfun]
  rfl
 have hst:=aL3 (s:=s) (m:=m) (f:=F+6) hk (aL4 ht (by decide)) (Zs i t g 1 ne ar)
 rw [if_neg (by rw [htx];decide),if_neg (by rw [htx];decide),if_pos htx,hdec] at hst
 refine⟨_,v.till,v,0,_,hst,⟨h1,h2,.inl rfl⟩,al4 (by show(20:Int)≠57;decide) (by decide) ?_ rfl (by show 5≤9;decide)⟩
 rw [ac4 (by decide),aa1,aa1,ac4 (by decide),aa1,aa1,aa1,aa1,ag0,hb.text]
 rfl
theorem bh0 (F:Nat) (ht:Tat s p 1 ⟨#[99,108,97,115,115]⟩ (fR 10++R) p' t) (hq:s.data.toList.drop q=R) (hqs:q≤s.size) (h1:Sees s 1 q u) (h2:Sees s 2 q u) (hg:g=1∨g=2):StF s m (F+3) i t g ne ar 10 u:=by
 obtain⟨p1,b,hb⟩:=bL8 (l:=123::125::R) ht.rest ht.le
 obtain⟨p2,w,hw⟩:=au7 (c:=123) (gap:= [32]) (.inr (.inl rfl)) (by simp) (l:=125::R) hb.rest hb.le
 obtain⟨p3,v,hv⟩:=au7 (c:=125) (gap:= []) (.inl rfl) (by simp) (l:=R) hw.rest hw.le
 obtain rfl:=ar8 hv hq hqs
 have hvt:=hv.till
 rw [←hvt] at h1 h2
 have hbn:Nm b:=aj6 hb (by decide)
 have hk:=ht.kind
 have htx:=ht.text
 have hsl:ai1 t=false:=by unfold ai1;rw [htx];exact ad7 (by decide)
 have hcls:runQ s m (F+1) (.cls true) (Zs i t g 1 ne ar)= .ok (.mk 23 ⟨#[]⟩ [aa8 1 b,.zero,.mk 25 ⟨#[]⟩ [] w.from' v.till] t.from' v.till) (Zs v.till v 0 1 ne ar):=by
  show aD6 s m true _=_
  unfold aD6
  rw [if_neg (by decide),PM.go (ap1 _),PM.go (bj5 (ac3 hg hsl (by decide)) hk htx),PM.go (ac2 (hb.seen (.inl rfl) ht.till)),PM.go (aS2 (ac1 (by decide)) hbn),PM.go (bx2 (ac2 (hw.seen (.inl rfl) hb.till)) (ag5 (by rw [hw.kind];decide))),if_neg (by decide),PM.go (ar7 (ac1 (by decide)) hw.opn.yes),PM.go (bi2 (ac2 (hv.seen (.inl rfl) hw.till)) hv.opn.yes),if_pos rfl]
  rfl
 have hdec:runQ s m (F+2) (.declaration true) (Zs i t g 1 ne ar)= .ok (.mk 24 ⟨#[]⟩ [.mk 23 ⟨#[]⟩ [aa8 1 b,.zero,.mk 25 ⟨#[]⟩ [] w.from' v.till] t.from' v.till] t.from' v.till) (Zs v.till v 0 1 ne ar):=by
  show af7 (runQ s m (F+1)) true _=_
  unfold af7
  rw [PM.go (ap1 _),if_pos (show nameT (Zs i t g 1 ne ar).tok ⟨#[99,108,97,115,115]⟩=true by show nameT t _=true;unfold nameT;rw [decide_eq_true hk,decide_eq_true htx];rfl),PM.go hcls]
  rfl
 have hst:=aL3 (s:=s) (m:=m) (f:=F+2) hk (aL4 ht (by decide)) (Zs i t g 1 ne ar)
 rw [if_neg (by rw [htx];decide),if_neg (by rw [htx];decide),if_neg (by rw [htx];decide),if_pos htx,hdec] at hst
 refine⟨_,v.till,v,0,_,hst,⟨h1,h2,.inl rfl⟩,al4 (by show(24:Int)≠57;decide) (by decide) ?_ rfl (by show 5≤9;decide)⟩
 rw [ac4 (by decide),aa1,aa1,ac4 (by decide),aa1,aa1,aa1,aa1,ag0,hb.text]
 rfl
end
end
section
open Go.RowKit
def lnL:Bool→List Nat→List Nd
 |_,[]=> []
 |dir,k::ks=>if dir=true∧k=16 then .mk 78 ⟨#[39,115,39]⟩ [] 0 0::lnL true ks else lnN k::lnL false ks
structure Fst (u:Tk):Prop where
 k:u.kind=0∨u.kind=1∨u.kind=4
 sl:ai1 u=false
 els:nameT u ⟨#[101,108,115,101]⟩=false
 ins:nameT u ⟨#[105,110,115,116,97,110,99,101,111,102]⟩=false
 inn:nameT u ⟨#[105,110]⟩=false
theorem Fst.cls {u:Tk} (h:Fst u):Cls u:=by
 have:=h.k
 exact bK7 (by omega) (by omega) (by omega) h.ins h.inn
theorem bv9 {u:Tk} {x:ByteArray} (hk:u.kind=0∨u.kind=1∨u.kind=4) (hx:u.text=x) (hd:(Lib.hasPrefix x.data.toList [47]||decide (x=⟨#[101,108,115,101]⟩)||decide (x=⟨#[105,110,115,116,97,110,99,101,111,102]⟩)||decide (x=⟨#[105,110]⟩))=false):Fst u:=by
 subst hx
 rw [Bool.or_eq_false_iff,Bool.or_eq_false_iff,Bool.or_eq_false_iff,decide_eq_false_iff_not,decide_eq_false_iff_not,decide_eq_false_iff_not] at hd
 exact⟨hk,hd.1.1.1,ae3 hd.1.1.2,ae3 hd.1.2,ae3 hd.2⟩
def kdF (k:Nat):Int:=if k=16 then 4 else 1
section
variable {s:ByteArray} {m:Bool} {i j g g' fl ne ar ar2:Int} {t u v w a b c d e o tk:Tk} {n:Nd} {f p q p':Nat} {x y:UInt8} {r R:List UInt8}
def be1 (s:ByteArray) (p:Nat) (bo:Bool) (ks:List Nat) (u:Tk):Prop:=match ks with
 | []=>u.kind=0
 |k::ks=> ∃p',Tat s p (kdF k) ⟨(fW k).toArray⟩ (fR k++(tlT bo k++lnT bo ks)) p' u
theorem bD3 {gap:List UInt8} (hg:GapL gap) (hd:s.data.toList.drop p=gap) (hp:p≤s.size): ∃p' t,Tat s p 0 ⟨#[]⟩ [] p' t:=
 at3 (a:= []) (l:= []) hg.all (by rw [hd];simp) hp ⟨rfl,fun p=>by unfold ae0;rw [if_neg (by decide),if_neg (by decide),if_neg (by simp [Lib.hasPrefix])]⟩ (fun _ _=>rfl)
theorem bJ5 {k:Nat} (hk:k<16) (hr:fR k= []→SepC R):SepC (fR k++R):=by
 have h: ∀k<16,fR k= []∨∃c l,fR k=c::l∧(c=10∨c=32∨c=40∨c=41∨c=43∨c=58∨c=59∨c=39):=by
  intro k hk
  match k,hk with
  |0,_=>exact .inl rfl
  |1,_=>exact .inr ⟨_,_,rfl,by decide⟩
  |2,_=>exact .inr ⟨_,_,rfl,by decide⟩
  |3,_=>exact .inr ⟨_,_,rfl,by decide⟩
  |4,_=>exact .inr ⟨_,_,rfl,by decide⟩
  |5,_=>exact .inr ⟨_,_,rfl,by decide⟩
  |6,_=>exact .inr ⟨_,_,rfl,by decide⟩
  |7,_=>exact .inr ⟨_,_,rfl,by decide⟩
  |8,_=>exact .inl rfl
  |9,_=>exact .inr ⟨_,_,rfl,by decide⟩
  |10,_=>exact .inr ⟨_,_,rfl,by decide⟩
  |11,_=>exact .inl rfl
  |12,_=>exact .inr ⟨_,_,rfl,by decide⟩
  |13,_=>exact .inr ⟨_,_,rfl,by decide⟩
  |14,_=>exact .inr ⟨_,_,rfl,by decide⟩
  |15,_=>exact .inr ⟨_,_,rfl,by decide⟩
  |k+16,h=>exact absurd h (by omega)
 rcases h k hk with h|⟨c,l,h,hc⟩
 ·rw [h]
  exact hr h
 ·rw [h]
  exact sepc c (l++R) hc
theorem bg9: ∀k<16,∃c a,fW k=c::a∧low c∧∀x ∈ a,aC0 x=true:=by
 intro k hk
 have h1: ∀l:List UInt8,l.all aC0=true→∀x ∈ l,aC0 x=true:=fun l h x hx=>List.all_eq_true.1 h x hx
 match k,hk with
 |0,_=>exact⟨_,_,rfl,by decide,h1 _ (by kernel_rfl)⟩
 |1,_=>exact⟨_,_,rfl,by decide,h1 _ (by kernel_rfl)⟩
 |2,_=>exact⟨_,_,rfl,by decide,h1 _ (by kernel_rfl)⟩
 |3,_=>exact⟨_,_,rfl,by decide,h1 _ (by kernel_rfl)⟩
 |4,_=>exact⟨_,_,rfl,by decide,h1 _ (by kernel_rfl)⟩
 |5,_=>exact⟨_,_,rfl,by decide,h1 _ (by kernel_rfl)⟩
 |6,_=>exact⟨_,_,rfl,by decide,h1 _ (by kernel_rfl)⟩
 |7,_=>exact⟨_,_,rfl,by decide,h1 _ (by kernel_rfl)⟩
 |8,_=>exact⟨_,_,rfl,by decide,h1 _ (by kernel_rfl)⟩
 |9,_=>exact⟨_,_,rfl,by decide,h1 _ (by kernel_rfl)⟩
 |10,_=>exact⟨_,_,rfl,by decide,h1 _ (by kernel_rfl)⟩
 |11,_=>exact⟨_,_,rfl,by decide,h1 _ (by kernel_rfl)⟩
 |12,_=>exact⟨_,_,rfl,by decide,h1 _ (by kernel_rfl)⟩
 |13,_=>exact⟨_,_,rfl,by decide,h1 _ (by kernel_rfl)⟩
 |14,_=>exact⟨_,_,rfl,by decide,h1 _ (by kernel_rfl)⟩
 |15,_=>exact⟨_,_,rfl,by decide,h1 _ (by kernel_rfl)⟩
 |k+16,h=>exact absurd h (by omega)
theorem bF5: ∀k<17,(Lib.hasPrefix (⟨(fW k).toArray⟩:ByteArray).data.toList [47]||decide ((⟨(fW k).toArray⟩:ByteArray)=⟨#[101,108,115,101]⟩)||decide ((⟨(fW k).toArray⟩:ByteArray)=⟨#[105,110,115,116,97,110,99,101,111,102]⟩)||decide ((⟨(fW k).toArray⟩:ByteArray)=⟨#[105,110]⟩))=false:=by decide
theorem bF6: ∀k<17,∃c a,fW k=c::a∧33≤c.toNat∧c.toNat<127∧c≠47∧c≠35:=by
 intro k hk
 rcases Nat.lt_or_ge k 16 with h|h
 ·obtain⟨c,a,h1,h2,_⟩:=bg9 k h
  exact⟨c,a,h1,by have:=h2.1;omega,by have:=h2.2;omega,by rintro rfl;exact absurd h2 (by decide),by rintro rfl;exact absurd h2 (by decide)⟩
 ·obtain rfl:k=16:=by omega
  exact⟨39,[115,39],rfl,by decide⟩
theorem aL1 {bo:Bool} {gap:List UInt8} {ks:List Nat} (hks: ∀k ∈ ks,k<17) (hg:GapL gap) (hd:s.data.toList.drop p=gap++lnT bo ks) (hp:p≤s.size): ∃u,be1 s p bo ks u∧Fst u∧Sees s 1 p u∧Sees s 2 p u∧(gap= [10]→u.kind=0∨u.line=true):=by
 cases ks with
 |nil=>
  obtain⟨p',t,h⟩:=bD3 hg (by rw [hd];simp [lnT]) hp
  exact⟨t,h.kind,bv9 (.inl h.kind) h.text (by decide),h.sees 1 (.inl rfl),h.sees 2 (.inr rfl),fun _=> .inl h.kind⟩
 |cons k ks=>
  have hk:=hks k (.head _)
  have hd2:s.data.toList.drop p=gap++(fW k++(fR k++(tlT bo k++lnT bo ks))):=hd
  have key: ∃p' t,Tat s p (kdF k) ⟨(fW k).toArray⟩ (fR k++(tlT bo k++lnT bo ks)) p' t:=by
   rcases Nat.lt_or_ge k 16 with h|h
   ·obtain⟨c,a,h1,h2,h3⟩:=bg9 k h
    unfold kdF
    rw [if_neg (by omega),h1]
    rw [h1] at hd2
    refine bD5 hg h2 h3 (bJ5 h fun h0=> ?_) hd2 hp
    have h9: ¬(k=9∨k=10):=by rintro(rfl|rfl)<;>cases h0
    unfold tlT
    cases bo with
    |false=>rw [if_neg (by decide)];exact sepc 10 _ (by simp)
    |true=>rw [if_pos rfl,if_neg h9];exact sepc 59 _ (by simp)
   ·obtain rfl:k=16:=by omega
    exact bD4 (q:=39) (b:= [115]) (.inl rfl) hg.all (by decide) (by kernel_rfl) hd2 hp
  obtain⟨p',t,h⟩:=key
  refine⟨t,⟨p',h⟩,bv9 (by rw [h.kind];unfold kdF;split<;>simp) h.text (bF5 k hk),h.sees 1 (.inl rfl),h.sees 2 (.inr rfl),?_⟩
  rintro rfl
  obtain⟨c,a,h1,h2⟩:=bF6 k hk
  rw [h1] at hd2
  exact .inr (bA6 (a:=c::a) (l:=fR k++(tlT bo k++lnT bo ks)) hd2 (aL2 h2) (h.sees 2 (.inr rfl)))
theorem bJ3 {K:Int} {z:ByteArray} {l:List UInt8} (h:Tat s p K z (l++R) p' t): ∃q,s.data.toList.drop q=R∧q≤s.size:=
 ⟨p'+l.length,aQ2 h.rest,aM5 h.rest h.le⟩
theorem bv8 (F:Nat) {k:Nat} (hk:k<17) (h9:k≠9) (h10:k≠10) (ht:Tat s p (kdF k) ⟨(fW k).toArray⟩ (fR k++x::r) p' t) (hx:x=10∨x=59) (hq:s.data.toList.drop q=x::r) (hqs:q≤s.size) (h:Clz s q e u) (hg:g=1∨g=2) (h0:0≤ne) (h1:ne<3990):StF s m (F+24) i t g ne ar k u:=by
 have h0q:fR k= []→p'=q:=fun hn=>aY5 (by rw [ht.rest,hn,hq];rfl) rfl (by have:=ht.le;rw [Array.length_toList];exact this) (by rw [Array.length_toList];exact hqs)
 match k,hk with
 |0,_=>obtain rfl:=h0q rfl;exact bv6 (F+12) (.inl rfl) ht h hg h0 h1
 |1,_=>exact bF8 (F+10) ht hx hq hqs h hg h0 h1
 |2,_=>exact bF9 (F+1) ht hx hq hqs h hg h0 h1
 |3,_=>exact bG0 (F+12) ht hx hq hqs h hg h0 h1
 |4,_=>exact bG1 (F+14) ht hx hq hqs h h0 h1
 |5,_=>exact bG2 (F+9) ht hx hq hqs h h0 h1
 |6,_=>exact bG3 (F+10) ht hx hq hqs h h0 h1
 |7,_=>exact bG4 (F+10) ht hq hqs h h0 h1
 |8,_=>obtain rfl:=h0q rfl;exact bv6 (F+12) (.inr rfl) ht h hg h0 h1
 |9,_=>exact absurd rfl h9
 |10,_=>exact absurd rfl h10
 |11,_=>obtain rfl:=h0q rfl;exact by3 (F+23) ht h
 |12,_=>exact by4 (F+13) ht hx hq hqs h h0 h1
 |13,_=>exact by5 (F+10) ht hx hq hqs h hg h0 h1
 |14,_=>exact by6 (F+21) ht hx hq hqs h h0 h1
 |15,_=>exact by7 (F+9) ht hx hq hqs h hg h0 h1
 |16,_=>obtain rfl:=h0q rfl;exact by8 (F+13) ht h hg h0 h1
 |k+17,h=>exact absurd h (by omega)
theorem bo9 (F:Nat) {bo:Bool} {k:Nat} {ks:List Nat} (hks: ∀z ∈ k::ks,z<17) (ht:Tat s p (kdF k) ⟨(fW k).toArray⟩ (fR k++(tlT bo k++lnT bo ks)) p' t) (hg:g=1∨g=2) (h0:0≤ne) (h1:ne<3990):
  ∃u p2,StF s m (F+24) i t g ne ar k u∧Fst u∧be1 s p2 bo ks u:=by
 obtain⟨q,hq,hqs⟩:=bJ3 ht
 have hks2: ∀z ∈ ks,z<17:=fun z hz=>hks z (.tail _ hz)
 cases bo with
 |false=>
  have hq2:s.data.toList.drop q= [10]++lnT false ks:=hq
  obtain⟨u,u1,u2,u3,u4,u5⟩:=aL1 hks2 (.inr (.inr rfl)) hq2 hqs
  refine⟨u,q,?_,u2,u1⟩
  have hk:=u2.k
  by_cases h9:k=9
  ·subst h9
   exact bv7 (F+17) ht hq hqs u3 u4 hg
  by_cases h10:k=10
  ·subst h10
   exact bh0 (F+21) ht hq hqs u3 u4 hg
  exact bv8 F (hks k (.head _)) h9 h10 ht (.inl rfl) hq hqs ⟨u3,u4,u2.cls,u2.sl,.inr ⟨rfl,by omega,u5 rfl⟩,u2.sl,u2.els⟩ hg h0 h1
 |true=>
  by_cases h9:k=9∨k=10
  ·have hq2:s.data.toList.drop q= []++lnT true ks:=by rw [hq];unfold tlT;rw [if_pos rfl,if_pos h9]
   obtain⟨u,u1,u2,u3,u4,_⟩:=aL1 hks2 (.inl rfl) hq2 hqs
   refine⟨u,q,?_,u2,u1⟩
   rcases h9 with rfl|rfl
   ·exact bv7 (F+17) ht hq hqs u3 u4 hg
   ·exact bh0 (F+21) ht hq hqs u3 u4 hg
  ·have hq2:s.data.toList.drop q=59::lnT true ks:=by rw [hq];unfold tlT;rw [if_pos rfl,if_neg h9];rfl
   have htl:tlT true k= [59]:=by unfold tlT;rw [if_pos rfl,if_neg h9]
   rw [htl] at ht
   obtain⟨p1,e,he⟩:=au7 (c:=59) (gap:= []) (.inl rfl) (by simp) hq2 hqs
   obtain⟨u,u1,u2,u3,u4,_⟩:=aL1 hks2 (.inl rfl) (show s.data.toList.drop p1= []++lnT true ks from he.rest) he.le
   have hto:=he.till
   refine⟨u,p1,bv8 F (hks k (.head _)) (fun h=>h9 (.inl h)) (fun h=>h9 (.inr h)) ht (.inr rfl) hq2 hqs ⟨he.sees 1 (.inl rfl),he.sees 2 (.inr rfl),aF5 he.opn (by simp),bk2 he.opn (by decide),.inl ⟨he.opn,by rw [hto];exact u3,by rw [hto];exact u4⟩,u2.sl,u2.els⟩ hg h0 h1,u2,u1⟩
theorem bj3 (F:Nat) {bo:Bool} (h0:0≤ne) (h1:ne<3980): ∀(ks:List Nat) (p:Nat) (j:Int) (c u:Tk) (g ar:Int) (dir:Bool) (kids:List Nd) (G:Nat),(∀z ∈ ks,z<17)→be1 s p bo ks u→Fst u→Nx s j c g u→ks.length<G→
  ∃l j2 u2 g2 ar2,dirL s (runQ s m (F+24)) false 0 G dir kids (Zs j c g 1 ne ar)= .ok (kids++l) (Zs j2 u2 g2 1 ne ar2)∧aa1 l=lnL dir ks∧(∀n ∈ l,aj3 n=true)∧ad1 l≤9*ks.length
 | [],p,j,c,u,g,ar,dir,kids,G,_,hh,hf,hn,hG=>by
  obtain⟨G,rfl⟩: ∃x,G=x+1:=⟨G - 1,by simp at hG;omega⟩
  obtain⟨g2,hg2,hpk⟩:=hn.peek hf.sl
  refine⟨[],j,u,g2,ar,?_,rfl,by simp,Nat.le_refl _⟩
  unfold dirL
  rw [PM.go (hpk _ _ _),if_pos (by unfold endB;rw [if_pos rfl];exact decide_eq_true hh),List.append_nil]
  rfl
 |k::ks,p,j,c,t,g,ar,dir,kids,G,hks,hh,hf,hn,hG=>by
  obtain⟨G,rfl⟩: ∃x,G=x+1:=⟨G - 1,by simp at hG;omega⟩
  rw [List.length_cons] at hG
  obtain⟨g2,hg2,hpk⟩:=hn.peek hf.sl
  obtain⟨p',ht⟩:=hh
  obtain⟨u,p2,⟨n,j3,c3,g3,ar3,r1,r2,r3⟩,hu,hh2⟩:=bo9 (m:=m) (i:=j) (ne:=ne+1) (ar:=ar) F hks ht hg2 (by omega) (by omega)
  have hks2: ∀z ∈ ks,z<17:=fun z hz=>hks z (.tail _ hz)
  have hkz:t.kind≠0:=by have:=ht.kind;unfold kdF at this;split at this<;>omega
  have hone:=aC2 (place:=t.from') (ne:=ne) (g:=g2) (a:=n) h0 (by omega) (bs5 (s:=s) (m:=m) (f:=F+23) (g:=g2) r1)
  have fin: ∀(n':Nd) (d':Bool),ac6 n'=(if dir=true∧k=16 then .mk 78 ⟨#[39,115,39]⟩ [] 0 0 else lnN k)→(d'=true↔dir=true∧k=16)→aj3 n'=true→aa2 n'≤9→dirL s (runQ s m (F+24)) false 0 (G+1) dir kids (Zs j c g 1 ne ar)=dirL s (runQ s m (F+24)) false 0 G d' (kids++ [n']) (Zs j3 c3 g3 1 ne ar3)→
    ∃l j2 u2 g2 ar2,dirL s (runQ s m (F+24)) false 0 (G+1) dir kids (Zs j c g 1 ne ar)= .ok (kids++l) (Zs j2 u2 g2 1 ne ar2)∧aa1 l=lnL dir (k::ks)∧(∀n ∈ l,aj3 n=true)∧ad1 l≤9*(k::ks).length:=by
   intro n' d' e1 e2 e3 e4 e5
   obtain⟨l,j4,u4,g4,ar4,q1,q2,q3,q4⟩:=bj3 F h0 h1 ks p2 j3 c3 u g3 ar3 d' (kids++ [n']) G hks2 hh2 hu r2 (by omega)
   refine⟨n'::l,j4,u4,g4,ar4,?_,?_,?_,?_⟩
   ·rw [e5,q1,List.append_assoc]
    rfl
   ·rw [aa1,q2,e1,lnL]
    by_cases hd:dir=true∧k=16
    ·rw [if_pos hd,if_pos hd,e2.2 hd]
    ·rw [if_neg hd,if_neg hd]
     cases d' with
     |true=>exact absurd (e2.1 rfl) hd
     |false=>rfl
   ·intro z hz
    rcases List.mem_cons.1 hz with rfl|hz
    ·exact e3
    ·exact q3 z hz
   ·rw [ad1,List.length_cons]
    omega
  have hstep:dirL s (runQ s m (F+24)) false 0 (G+1) dir kids (Zs j c g 1 ne ar)=(if dir && decide (n.kind=57) then do
    let k←ofO n.kids.head?
    if k.kind=4 then dirL s (runQ s m (F+24)) false 0 G true (kids++ [.mk 78 k.text [] n.from' n.till]) else dirL s (runQ s m (F+24)) false 0 G false (kids++ [n])
   else dirL s (runQ s m (F+24)) false 0 G false (kids++ [n]):PM (List Nd)) (Zs j3 c3 g3 1 ne ar3):=by
   rw [dirL,PM.go (hpk _ _ _),if_neg (by unfold endB;rw [if_pos rfl,decide_eq_false hkz];decide),PM.go hone]
  have hd:=r3.dir
  by_cases h16:k=16
  ·rw [if_pos h16] at hd
   obtain⟨d1,tt,d2,d3⟩:=hd
   cases dir with
   |true=>
    refine fin (.mk 78 ⟨#[39,115,39]⟩ [] n.from' n.till) true ?_ (by simp [h16]) rfl (by show 1≤9;decide) ?_
    ·rw [if_pos ⟨rfl,h16⟩]
     rfl
    ·rw [hstep,if_pos (by rw [decide_eq_true d1];rfl),d2]
     have e:(ofO ([aa8 4 tt]:List Nd).head? :PM Nd) (Zs j3 c3 g3 1 ne ar3)= .ok (aa8 4 tt) (Zs j3 c3 g3 1 ne ar3):=rfl
     rw [PM.go e,if_pos (show(aa8 4 tt).kind=4 from rfl),show(aa8 4 tt).text=⟨#[39,115,39]⟩ from d3]
   |false=>
    refine fin n false ?_ (by simp) r3.np r3.sz ?_
    ·rw [if_neg (by simp),r3.bare]
    ·rw [hstep,if_neg (by simp)]
  ·rw [if_neg h16] at hd
   refine fin n false ?_ (by simp [h16]) r3.np r3.sz ?_
   ·rw [if_neg (by simp [h16]),r3.bare]
   ·rw [hstep]
    by_cases hc:(dir && decide (n.kind=57))=true
    ·rw [if_pos hc]
     rw [Bool.and_eq_true,decide_eq_true_eq] at hc
     obtain⟨z,z1,z2⟩:=hd hc.2
     have e:(ofO n.kids.head? :PM Nd) (Zs j3 c3 g3 1 ne ar3)= .ok z (Zs j3 c3 g3 1 ne ar3):=by rw [z1];rfl
     rw [PM.go e,if_neg z2]
    ·rw [if_neg hc]
theorem aI4: ∀ {l:List Nd},(∀n ∈ l,aj3 n=true)→ap2 l=true
 | [],_=>rfl
 |n::l,h=>by
  show(aj3 n && ap2 l)=true
  rw [h n (.head _),aI4 (l:=l) fun x hx=>h x (.tail _ hx)]
  rfl
theorem bl4 (F:Nat) (hF:8≤F) {bo:Bool} {ks:List Nat} (hks: ∀z ∈ ks,z<17) (hl:ks.length≤30) (hd:s.data.toList=lnT bo ks):
  ∃l q,ai6 s false (F+26)= .ok (.mk 86 ⟨#[]⟩ l 0 s.size) q∧aa1 l=lnL true ks∧ad1 l≤270:=by
 obtain⟨u,u1,u2,u3,u4,_⟩:=aL1 (s:=s) (p:=0) (gap:= []) hks (.inl rfl) (by rw [List.drop_zero,hd];rfl) (Nat.zero_le _)
 obtain⟨l,j,t,g2,ar2,r1,r2,r3,r4⟩:=bj3 (s:=s) (m:=false) (ne:=0) F (bo:=bo) (by decide) (by decide) ks 0 0 Tk.zero u 0 (-1) true [] (F+24) hks u1 u2 ⟨u3,u4,.inl rfl⟩ (by omega)
 rw [List.nil_append] at r1
 have hst:runQ s false (F+25) (.statements true false 0) (Zs 0 Tk.zero 0 1 0 (-1))= .ok l (Zs j t g2 1 0 ar2):=r1
 have hprog:runQ s false (F+26) .program (ps0 false)= .ok (.mk 86 ⟨#[]⟩ l 0 s.size) (Zs t.till t 0 1 0 ar2):=by
  show ar6 s false (runQ s false (F+25)) (Zs 0 Tk.zero 0 1 0 (-1))=_
  unfold ar6
  rw [PM.go hst,PM.go ak6]
  rfl
 have hN:aa2 (.mk 86 ⟨#[]⟩ l 0 s.size)=1+ad1 l:=rfl
 have hd:=bg2 (.mk 86 ⟨#[]⟩ l 0 s.size)
 refine⟨l,Zs t.till t 0 1 0 ar2,?_,r2,by omega⟩
 unfold ai6 aA0
 rw [PM.go hprog,if_neg (by rw [show aj3 (.mk 86 ⟨#[]⟩ l 0 s.size)=ap2 l from rfl,aI4 r3];decide),if_neg (by omega),if_neg (by omega)]
 rfl
end
end
end Go.Proofs.YtcgbkjhoifhnnaaGreatDoor
