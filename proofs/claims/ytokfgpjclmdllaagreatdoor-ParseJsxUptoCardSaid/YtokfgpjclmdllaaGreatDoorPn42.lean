/- Steps (JxT JxP JxG). Conditions: as stated. -/
import Derived.Test.YtokfgpjclmdllaaGreatDoorPn41
namespace Go.Proofs.YtokfgpjclmdllaaGreatDoor
section
open Go.RowKit
section
variable {s:ByteArray} {p:Nat}
theorem bK2 {q:Nat} {line:Bool} {kind:Int} {n:Nat} (hb:btw s p false= .fine q line []) (ht:tagT (s.data.toList.drop q)= .fine kind n):nxt s p 5= .fine kind q n line []:=by
 unfold nxt tokT
 rw [if_neg (by rintro(h|h|⟨h,_⟩)<;>omega),if_neg (by decide),hb]
 simp only
 rw [if_neg (by decide),if_neg (by decide),if_pos True.intro,ht]
theorem bK1 {kind:Int} {n:Nat} (ht:ao1 (s.data.toList.drop p)= .fine kind n):nxt s p 4= .fine kind p n false []:=by
 unfold nxt tokT
 rw [if_neg (by rintro(h|h|⟨h,_⟩)<;>omega),if_pos (.inr rfl)]
 simp only
 rw [if_neg (by decide),if_pos True.intro,ht]
theorem aF4 {a l:List UInt8} {kind:Int} (hd:s.data.toList.drop p=a++l) (hp:p≤s.size) (hi:Ink0 (a++l)) (ht:tagT (a++l)= .fine kind a.length):
  Sees s 5 p ⟨kind,⟨a.toArray⟩,(p:Int),((p+a.length:Nat):Int),false⟩:=by
 refine⟨by omega,by omega,p,a.length,?_,?_⟩
 ·rw [Int.toNat_natCast]
  refine bK2 (aK0 hd hp ⟨hi.1,hi.2 _⟩) ?_
  rw [hd]
  exact ht
 ·unfold tkOf
  rw [ay3 hd]
theorem bI5 {a l:List UInt8} {kind:Int} (hd:s.data.toList.drop p=a++l) (hp:p≤s.size) (ht:ao1 (a++l)= .fine kind a.length):
  Sees s 4 p ⟨kind,⟨a.toArray⟩,(p:Int),((p+a.length:Nat):Int),false⟩:=by
 refine⟨by omega,by omega,p,a.length,?_,?_⟩
 ·rw [Int.toNat_natCast]
  refine bK1 ?_
  rw [hd]
  exact ht
 ·unfold tkOf
  rw [ay3 hd]
theorem aQ5 {c:UInt8} (l:List UInt8) (h:c=60∨c=62∨c=47∨c=123):tagT (c::l)= .fine 5 1:=by
 rcases h with rfl|rfl|rfl|rfl<;>
 ·rw [tagT,if_neg (by decide),if_pos (by decide)]
theorem bi8 {d:UInt8} (l:List UInt8) (h1:d≠47) (h2:d≠42):Ink0 (47::d::l):=by
 refine⟨?_,fun p=> ?_⟩
 ·unfold ar4
  rw [af1 _ _ (by decide)]
  rfl
 ·unfold ad1
  have e1:Lib.hasPrefix (47::d::l) [47,47]=false:=by simp [Lib.hasPrefix,List.isPrefixOf,Ne.symm h1]
  have e2:Lib.hasPrefix (47::d::l) [47,42]=false:=by simp [Lib.hasPrefix,List.isPrefixOf,Ne.symm h2]
  rw [if_neg (by rw [e1];decide),if_neg (by rw [e2];decide),if_neg (by rw [ah4 (by decide)];simp)]
theorem bv9 {c:UInt8} (l:List UInt8) (h:c.toNat<128) (h45:c.toNat≠45):al3 true (c::l)=at6 ((c.toNat:Nat):Int):=by
 unfold al3
 rw [af1 _ _ h]
 have:decide (((c.toNat:Nat):Int)=45)=false:=decide_eq_false (by omega)
 simp [this]
theorem bD0 {c d:UInt8} (l:List UInt8) (hc:c=97∨c=98) (hd:d=62∨d=47):tagT (c::d::l)= .fine 1 1:=by
 have hcl:c.toNat<128:=by rcases hc with rfl|rfl<;>decide
 have hdl:d.toNat<128:=by rcases hd with rfl|rfl<;>decide
 have h1:ad7 ((c.toNat:Nat):Int)=true:=by rcases hc with rfl|rfl<;>kernel_rfl
 have h2:at6 ((d.toNat:Nat):Int)=false:=by rcases hd with rfl|rfl<;>kernel_rfl
 have g1:al3 true (c::d::l)=true:=by
  rw [bv9 _ hcl (by rcases hc with rfl|rfl<;>decide)]
  unfold at6
  rw [h1]
  rfl
 have g2:al3 true (d::l)=false:=by rw [bv9 _ hdl (by rcases hd with rfl|rfl<;>decide),h2]
 have hn:ag4 true (c::d::l)=1:=by
  unfold ag4
  rw [af1 _ _ hcl,if_pos ⟨show (0:Int)<1 by decide,h1⟩,am5 g1,af1 _ _ hcl]
  show 1+ag2 true (d::l)=1
  rw [ax4 g2]
 rw [tagT,if_neg (by rcases hc with rfl|rfl<;>decide),if_neg (by rcases hc with rfl|rfl<;>decide),if_pos (by rw [hn];decide),hn]
 unfold aft
 rw [show (c::d::l).drop 1=d::l from rfl,af1 _ _ hdl,if_neg (show¬(1:Int)<0 by decide)]
theorem bx7 {c:UInt8} (l:List UInt8) (h:c=60∨c=123):ao1 (c::l)= .fine 5 1:=by
 have hc:ch (c::l)=(true,0):=by
  unfold ch
  rw [List.length_cons]
  rcases h with rfl|rfl<;>rfl
 unfold ao1
 rw [hc,if_neg (by decide),if_neg (by decide),if_neg (by simp)]
 rcases h with rfl|rfl
 ·rw [if_pos (.inr rfl)]
 ·rw [if_pos (.inl rfl)]
theorem bg4 {c:UInt8} (l:List UInt8) (hc:chC c=true): ∀a:List UInt8,(∀x ∈ a,x.toNat<128∧chC x=false)→ch (a++c::l)=(true,a.length)
 | [],_=>by
  show ch (c::l)=(true,0)
  rw [aR6,if_pos hc]
 |x::a,h=>by
  have hx:=h x (List.mem_cons_self ..)
  rw [List.cons_append,aR6,if_neg (by rw [hx.2];decide),af1 _ _ hx.1,if_neg (show¬(1:Int)<0 by decide)]
  show up 1 (ch (a++c::l))=_
  rw [bg4 l hc a fun y hy=>h y (List.mem_cons_of_mem _ hy)]
  show(true,1+a.length)=(true,a.length+1)
  rw [Nat.add_comm]
theorem bc2 {c:UInt8} {a:List UInt8} (l:List UInt8) (hc:chC c=true) (ha: ∀x ∈ a,x.toNat<128∧chC x=false) (h0:a≠ []):ao1 (a++c::l)= .fine 11 a.length:=by
 have hp:0<a.length:=List.length_pos_iff.2 h0
 unfold ao1
 rw [bg4 l hc a ha,if_neg (show¬true=false by decide),if_pos hp]
end
end
section
open Go.RowKit
def jxI:Nat→List UInt8
 |0=> [32,116,10]
 |1=> [123,118,125]
 |2=> [123,32,125]
 |_=> [60,98,47,62]
def txN (p:List UInt8):List Nd:=if p= [] then [] else [.mk 54 ⟨p.toArray⟩ [] 0 0]
def bz5:Nd:= .mk 47 ⟨#[]⟩ [.mk 48 ⟨#[98]⟩ [] 0 0,.mk 49 ⟨#[]⟩ [] 0 0,.zero] 0 0
def jxD:Nat→Nd
 |1=> .mk 52 ⟨#[]⟩ [idN 118] 0 0
 |2=> .mk 52 ⟨#[]⟩ [.zero] 0 0
 |_=>bz5
def jxN:List UInt8→List Nat→List Nd
 |pc,[]=>txN pc
 |pc,k::ks=>if k=0 then jxN (pc++jxI 0) ks else txN pc++jxD k::jxN [] ks
theorem aB7 (pc:List UInt8) (k:Nat) (ks:List Nat):jxN pc (k::ks)=if k=0 then jxN (pc++jxI 0) ks else txN pc++jxD k::jxN [] ks:=rfl
def af3:List Nat→List UInt8 × List Nat
 | []=>([],[])
 |k::ks=>if k=0 then (jxI 0++(af3 ks).1,(af3 ks).2) else ([],k::ks)
theorem an5 (k:Nat) (ks:List Nat):af3 (k::ks)=if k=0 then (jxI 0++(af3 ks).1,(af3 ks).2) else ([],k::ks):=rfl
theorem aK9: ∀(ks:List Nat) (pc:List UInt8),jxN pc ks=txN (pc++(af3 ks).1)++jxN [] (af3 ks).2
 | [],pc=>by
  show txN pc=txN (pc++ [])++ []
  rw [List.append_nil,List.append_nil]
 |k::ks,pc=>by
  rw [aB7,an5]
  by_cases hk:k=0
  ·rw [if_pos hk,if_pos hk,aK9 ks,List.append_assoc]
  ·rw [if_neg hk,if_neg hk,aB7,if_neg hk,List.append_nil]
   rfl
theorem au7: ∀ks:List Nat,ks.flatMap jxI=(af3 ks).1++(af3 ks).2.flatMap jxI
 | []=>rfl
 |k::ks=>by
  rw [an5]
  by_cases hk:k=0
  ·subst hk
   rw [if_pos rfl,List.flatMap_cons,au7 ks]
   exact(List.append_assoc _ _ _).symm
  ·rw [if_neg hk]
   rfl
theorem aH7: ∀ks:List Nat,(af3 ks).2.length≤ks.length∧((af3 ks).1≠ []→(af3 ks).2.length<ks.length)
 | []=>⟨Nat.le_refl _,fun h=>absurd rfl h⟩
 |k::ks=>by
  have h:=aH7 ks
  rw [an5,List.length_cons]
  by_cases hk:k=0
  ·rw [if_pos hk]
   exact⟨Nat.le_succ_of_le h.1,fun _=>Nat.lt_succ_of_le h.1⟩
  ·rw [if_neg hk]
   exact⟨Nat.le_refl _,fun h=>absurd rfl h⟩
theorem ar5: ∀ks:List Nat,(af3 ks).2= []∨∃k r,(af3 ks).2=k::r∧k≠0
 | []=> .inl rfl
 |k::ks=>by
  rw [an5]
  by_cases hk:k=0
  ·rw [if_pos hk]
   exact ar5 ks
  ·rw [if_neg hk]
   exact .inr ⟨k,ks,rfl,hk⟩
theorem aN9: ∀ks:List Nat,∀x ∈ (af3 ks).1,x.toNat<128∧chC x=false
 | [],x,h=>by cases h
 |k::ks,x,h=>by
  rw [an5] at h
  by_cases hk:k=0
  ·rw [if_pos hk] at h
   rcases List.mem_append.1 h with h|h
   ·have h3:x=32∨x=116∨x=10:=by simpa [jxI] using h
    rcases h3 with rfl|rfl|rfl<;>decide
   ·exact aN9 ks x h
  ·rw [if_neg hk] at h
   cases h
section
variable {s:ByteArray} {m:Bool} {i j fl ne ar:Int} {g:Int} {t u tk:Tk} {x:ByteArray} {q q':Ps}
theorem aQ4 (hp:ab4 s 5 q= .ok t q') (h:punctT t x=false):ay1 s x q= .ok false q':=by
 unfold ay1
 rw [PM.go hp,if_neg (by rw [h];decide)]
 rfl
theorem bn7 (hp:ab4 s 5 q= .ok t (Zs i t g fl ne ar)) (h:punctT t x=true):ay1 s x q= .ok true (Zs t.till t 0 fl ne ar):=by
 unfold ay1
 rw [PM.go hp,if_pos h,PM.go as3]
 rfl
theorem aq6 (hp:ab4 s 5 q= .ok t (Zs i t g fl ne ar)) (h:punctT t x=true):ah3 s x q= .ok t (Zs t.till t 0 fl ne ar):=by
 unfold ah3
 rw [PM.go hp,if_pos h]
 rfl
theorem bt3 (hp:ab4 s 5 q= .ok t (Zs i t g fl ne ar)) (h:t.kind=1):aU0 s q= .ok t (Zs t.till t 0 fl ne ar):=by
 unfold aU0
 rw [PM.go hp,if_pos h]
 rfl
theorem aS6 (f:Nat) (hp:ab4 s 5 q= .ok t (Zs i t g fl ne ar)) (h:t.kind=1) (hx:t.text=⟨#[97]⟩∨t.text=⟨#[98]⟩) (hu:Sees s 5 t.till u) (h1:punctT u ⟨#[58]⟩=false) (h2:punctT u ⟨#[46]⟩=false):
  runQ s m (f+1) (.jname true) q= .ok (.mk 48 t.text [] t.from' t.till) (Zs t.till u 5 fl ne ar):=by
 show aD6 s true q=_
 unfold aD6
 rw [PM.go (bt3 hp h),if_neg (by rintro(h|h);exact absurd h (by decide);exact h hx),PM.go (aQ4 (ad6 hu) h1),if_neg (by decide),PM.go (aQ4 (ac3 (by decide)) h2),if_neg (by decide)]
 rfl
theorem bs6 (f:Nat) (fr:Int) {p:Nat} {l:List UInt8} (hd:s.data.toList.drop p=98::47::62::l):
  runQ s m (f+2) (.markup fr) (Zs ((p:Nat):Int) ⟨1,⟨#[98]⟩,(p:Int),((p+1:Nat):Int),false⟩ 5 fl ne ar)=
   .ok (.mk 47 ⟨#[]⟩ [.mk 48 ⟨#[98]⟩ [] (p:Int) ((p+1:Nat):Int),.mk 49 ⟨#[]⟩ [] ((p+1:Nat):Int) ((p+1:Nat):Int),.zero] fr ((p+1+1+1:Nat):Int)) (Zs ((p+1+1+1:Nat):Int) ⟨5,⟨#[62]⟩,((p+1+1:Nat):Int),((p+1+1+1:Nat):Int),false⟩ 0 fl ne ar):=by
 have hd1:=ah1 hd
 have hd2:=ah1 hd1
 have l0:=aq9 hd
 have l1:=aq9 hd1
 have hsl:Sees s 5 ((p+1:Nat):Int) ⟨5,⟨#[47]⟩,((p+1:Nat):Int),((p+1+1:Nat):Int),false⟩:=aF4 (a:= [47]) hd1 l0 (bi8 _ (by decide) (by decide)) (aQ5 _ (.inr (.inr (.inl rfl))))
 have hgt:Sees s 5 ((p+1+1:Nat):Int) ⟨5,⟨#[62]⟩,((p+1+1:Nat):Int),((p+1+1+1:Nat):Int),false⟩:=aF4 (a:= [62]) hd2 l1 (ah5 (by decide) (by decide) (by decide) (by decide)) (aQ5 _ (.inr (.inl rfl)))
 show an7 s (runQ s m (f+1)) fr _=_
 unfold an7
 rw [PM.go (aQ4 (ac3 (by decide)) rfl),if_neg (by decide),PM.go (aS6 f (ac3 (by decide)) rfl (.inr rfl) hsl rfl rfl),PM.go (ac3 (by decide)),if_neg (by rintro(h|h);exact(show¬(5:Int)=1 by decide) h;exact(show¬false=true by decide) h),PM.go (bn7 (ac3 (by decide)) rfl),if_pos rfl,PM.go (aq6 (ad6 hgt) rfl)]
 rfl
theorem bq4 (p:Nat):Cls ⟨5,⟨#[125]⟩,((p:Nat):Int),((p+1:Nat):Int),false⟩:=by
 have h:Opn 125 (⟨5,⟨#[125]⟩,((p:Nat):Int),((p+1:Nat):Int),false⟩:Tk):=⟨rfl,rfl⟩
 have hk:=h.kind
 exact⟨⟨.inr (by rw [h.text];decide),⟨h.no (by decide),h.no (by decide),h.no (by decide),h.no (by decide),by omega,by omega,h.no (by decide),h.no (by decide)⟩⟩,h.no (by decide),by unfold ah2;rw [h.text];rw [Bool.and_eq_false_iff];exact .inr (by decide),h.no (by decide),h.no (by decide)⟩
theorem pk_y (c:UInt8) (a b:Int) (l:Bool):punctT (⟨5,⟨#[c]⟩,a,b,l⟩:Tk) ⟨#[c]⟩=true:=by simp [punctT]
theorem pk_n {c d:UInt8} (h:c≠d) (a b:Int) (l:Bool): ¬punctT (⟨5,⟨#[c]⟩,a,b,l⟩:Tk) ⟨#[d]⟩=true:=by simp [punctT,h]
theorem pk_k {k:Int} (h:k≠5) (x y:ByteArray) (a b:Int) (l:Bool): ¬punctT (⟨k,x,a,b,l⟩:Tk) y=true:=by simp [punctT,h]
section
variable {R:(x:Fn)→PM x.Out} {of:ByteArray} {fr:Int} {n:Nat} {kids:List Nd} {p:Nat} {l:List UInt8}
theorem bB7 (hk:kids.length≤4194304) (h:Sees s 4 i t) (h11:t.kind=11):ag9 s R of fr (n+1) kids (Zs i tk 0 fl ne ar)=ag9 s R of fr n (kids++ [af5 54 t]) (Zs t.till t 0 fl ne ar):=by
 rw [ag9,if_neg (by omega),PM.go (ad6 h),if_pos h11,PM.go as3]
theorem bk9 {c:UInt8} (hc:c=60∨c=123) (hd:s.data.toList.drop p=c::l):Sees s 4 ((p:Nat):Int) ⟨5,⟨#[c]⟩,(p:Int),((p+1:Nat):Int),false⟩:=bI5 (a:= [c]) hd (Nat.le_of_lt (aq9 hd)) (bx7 _ hc)
theorem px_0 (hk:kids.length≤4194304) (hd:s.data.toList.drop p=123::32::125::l):
  ag9 s R of fr (n+1) kids (Zs ((p:Nat):Int) tk 0 fl ne ar)=ag9 s R of fr n (kids++ [.mk 52 ⟨#[]⟩ [.zero] (p:Int) ((p+1+1+1:Nat):Int)]) (Zs ((p+1+1+1:Nat):Int) ⟨5,⟨#[125]⟩,((p+1+1:Nat):Int),((p+1+1+1:Nat):Int),false⟩ 0 fl ne ar):=by
 have hd1:=ah1 hd
 have hu:Sees s 2 ((p+1:Nat):Int) ⟨5,⟨#[125]⟩,((p+1+1:Nat):Int),((p+1+1+1:Nat):Int),false⟩:=bC3 (.inr rfl) (a:= [125]) hd1 ⟨(ah5 (by decide) (by decide) (by decide) (by decide)).1,fun p _=>(ah5 (by decide) (by decide) (by decide) (by decide)).2 p⟩ (an9 (by decide) (by decide) ((aP3 (by decide)).trans rfl) (show(1:Nat)≠0 by decide))
 rw [ag9,if_neg (by omega),PM.go (ad6 (bk9 (.inr rfl) hd)),if_neg (show¬(5:Int)=11 by decide),if_pos (pk_y _ _ _ _),PM.go as3,PM.go (ad6 hu),if_pos (pk_y _ _ _ _),PM.go (bb6 (aU1 (by decide) (by decide) (by decide) rfl) rfl)]
 rfl
theorem px_v (F:Nat) (h0:0≤ne) (h9:ne<3990) (hk:kids.length≤4194304) (hd:s.data.toList.drop p=123::118::125::l):
  ∃v:Tk,v.text=⟨#[118]⟩∧∃ar2,ag9 s (runQ s m (F+12)) of fr (n+1) kids (Zs ((p:Nat):Int) tk 0 1 ne ar)=ag9 s (runQ s m (F+12)) of fr n (kids++ [.mk 52 ⟨#[]⟩ [af5 1 v] (p:Int) ((p+1+1+1:Nat):Int)]) (Zs ((p+1+1+1:Nat):Int) ⟨5,⟨#[125]⟩,((p+1+1:Nat):Int),((p+1+1+1:Nat):Int),false⟩ 0 1 ne ar2):=by
 have hd1:=ah1 hd
 have hd2:=ah1 hd1
 have l0:=aq9 hd
 have l1:=aq9 hd1
 have hg:=bv8 (c:=125) l (by decide) (by kernel_rfl)
 have hv: ∀g:Int,g=1∨g=2→Sees s g ((p+1:Nat):Int) ⟨1,⟨#[118]⟩,((p+1:Nat):Int),((p+1+1:Nat):Int),false⟩:=fun g h=>at4 h (a:= [118]) hd1 l0 (ah5 (by decide) (by decide) (by decide) (by decide)) (aI3 (a:= []) (by decide) (aO3 (by decide)) (fun x hx=>by cases hx) hg.1 hg.2)
 have hc: ∀g:Int,g=1∨g=2→Sees s g ((p+1+1:Nat):Int) ⟨5,⟨#[125]⟩,((p+1+1:Nat):Int),((p+1+1+1:Nat):Int),false⟩:=fun g h=>at4 h (a:= [125]) hd2 l1 (ah5 (by decide) (by decide) (by decide) (by decide)) (an9 (by decide) (by decide) ((aP3 (by decide)).trans rfl) (show(1:Nat)≠0 by decide))
 have hcl:=bq4 (p+1+1)
 have hnm:Nm ⟨1,⟨#[118]⟩,((p+1:Nat):Int),((p+1+1:Nat):Int),false⟩:=⟨rfl,nm_v.2,nm_v.3,nm_v.4,nm_v.5⟩
 have hin:runQ s m (F+12) .inner (Zs ((p+1:Nat):Int) ⟨1,⟨#[118]⟩,((p+1:Nat):Int),((p+1+1:Nat):Int),false⟩ 2 1 ne ar)= .ok (af5 1 ⟨1,⟨#[118]⟩,((p+1:Nat):Int),((p+1+1:Nat):Int),false⟩) (Zs ((p+1+1:Nat):Int) ⟨5,⟨#[125]⟩,((p+1+1:Nat):Int),((p+1+1+1:Nat):Int),false⟩ 1 1 ne ((p+1:Nat):Int)):=by
  show aD4 (runQ s m (F+11)) _=_
  unfold aD4
  exact bI9 (az8 (f:=F+10) (bf5 (F+1) hnm (.inr rfl) (ac3 (by decide)) (hc 1 (.inl rfl)) hcl.stp hcl.q hcl.asg hcl.arr h0 (by omega)) hcl.com)
 refine⟨⟨1,⟨#[118]⟩,((p+1:Nat):Int),((p+1+1:Nat):Int),false⟩,rfl,((p+1:Nat):Int),?_⟩
 rw [ag9,if_neg (by omega),PM.go (ad6 (bk9 (.inr rfl) hd)),if_neg (show¬(5:Int)=11 by decide),if_pos (pk_y _ _ _ _),PM.go as3,PM.go (ad6 (hv 2 (.inr rfl))),if_neg (pk_k (by decide) _ _ _ _ _),PM.go hin,PM.go (bb6 (ac3 (by decide)) rfl)]
 rfl
theorem bK4 (F:Nat) (h0:0≤ne) (h9:ne<3990) (hk:kids.length≤4194304) (hd:s.data.toList.drop p=60::98::47::62::l):
  ag9 s (runQ s m (F+2)) of fr (n+1) kids (Zs ((p:Nat):Int) tk 0 1 ne ar)=ag9 s (runQ s m (F+2)) of fr n (kids++ [.mk 47 ⟨#[]⟩ [.mk 48 ⟨#[98]⟩ [] ((p+1:Nat):Int) ((p+1+1:Nat):Int),.mk 49 ⟨#[]⟩ [] ((p+1+1:Nat):Int) ((p+1+1:Nat):Int),.zero] (p:Int) ((p+1+1+1+1:Nat):Int)]) (Zs ((p+1+1+1+1:Nat):Int) ⟨5,⟨#[62]⟩,((p+1+1+1:Nat):Int),((p+1+1+1+1:Nat):Int),false⟩ 0 1 ne ar):=by
 have hd1:=ah1 hd
 have l0:=aq9 hd
 have hb:Sees s 5 ((p+1:Nat):Int) ⟨1,⟨#[98]⟩,((p+1:Nat):Int),((p+1+1:Nat):Int),false⟩:=aF4 (a:= [98]) hd1 l0 (ah5 (by decide) (by decide) (by decide) (by decide)) (bD0 _ (.inr rfl) (.inr rfl))
 rw [ag9,if_neg (by omega),PM.go (ad6 (bk9 (.inl rfl) hd)),if_neg (show¬(5:Int)=11 by decide),if_neg (pk_n (by decide) _ _ _),if_pos (pk_y _ _ _ _),PM.go as3,PM.go (ad6 hb),if_neg (pk_k (by decide) _ _ _ _ _),PM.go (aK4 h0 (by omega) (bs6 F _ hd1))]
theorem bI1 (F:Nat) {nm rest:List UInt8} (hnm:nm= []∨nm= [97]) (hk:kids.length≤4194304) (hd:s.data.toList.drop p=60::47::(nm++62::rest)):
  ∃p' u,ag9 s (runQ s m (F+2)) ⟨nm.toArray⟩ fr (n+1) kids (Zs ((p:Nat):Int) tk 0 1 ne ar)= .ok (.mk 56 ⟨#[]⟩ kids fr ((p:Nat):Int)) (Zs ((p':Nat):Int) u 0 1 ne ar)∧s.data.toList.drop p'=rest∧p'≤s.size:=by
 have hd1:=ah1 hd
 have hd2:=ah1 hd1
 have l0:=aq9 hd
 have l1:=aq9 hd1
 rcases hnm with rfl|rfl
 ·have hd2':s.data.toList.drop (p+1+1)=62::rest:=hd2
  have hsl:Sees s 5 ((p+1:Nat):Int) ⟨5,⟨#[47]⟩,((p+1:Nat):Int),((p+1+1:Nat):Int),false⟩:=aF4 (a:= [47]) (l:=62::rest) hd1 l0 (bi8 _ (by decide) (by decide)) (aQ5 _ (.inr (.inr (.inl rfl))))
  have hgt:Sees s 5 ((p+1+1:Nat):Int) ⟨5,⟨#[62]⟩,((p+1+1:Nat):Int),((p+1+1+1:Nat):Int),false⟩:=aF4 (a:= [62]) hd2' l1 (ah5 (by decide) (by decide) (by decide) (by decide)) (aQ5 _ (.inr (.inl rfl)))
  have hcl:runQ s m (F+2) (.closing ⟨([]:List UInt8).toArray⟩ ((p:Nat):Int)) (Zs ((p+1+1:Nat):Int) ⟨5,⟨#[47]⟩,((p+1:Nat):Int),((p+1+1:Nat):Int),false⟩ 0 1 ne ar)= .ok () (Zs ((p+1+1+1:Nat):Int) ⟨5,⟨#[62]⟩,((p+1+1:Nat):Int),((p+1+1+1:Nat):Int),false⟩ 0 1 ne ar):=by
   show al9 s (runQ s m (F+1)) _ _ _=_
   unfold al9
   rw [PM.go (ad6 hgt),if_neg (show¬(5:Int)=1 by decide),if_pos rfl,PM.go (aq6 (ac3 (by decide)) rfl)]
   rfl
  refine⟨p+1+1+1,⟨5,⟨#[62]⟩,((p+1+1:Nat):Int),((p+1+1+1:Nat):Int),false⟩,?_,ah1 hd2',aq9 hd2'⟩
  rw [ag9,if_neg (by omega),PM.go (ad6 (bk9 (.inl rfl) hd)),if_neg (show¬(5:Int)=11 by decide),if_neg (pk_n (by decide) _ _ _),if_pos (pk_y _ _ _ _),PM.go as3,PM.go (ad6 hsl),if_pos (pk_y _ _ _ _),PM.go as3,PM.go hcl]
  rfl
 ·have hd2':s.data.toList.drop (p+1+1)=97::62::rest:=hd2
  have hd3:=ah1 hd2'
  have l2:=aq9 hd2'
  have hsl:Sees s 5 ((p+1:Nat):Int) ⟨5,⟨#[47]⟩,((p+1:Nat):Int),((p+1+1:Nat):Int),false⟩:=aF4 (a:= [47]) (l:=97::62::rest) hd1 l0 (bi8 _ (by decide) (by decide)) (aQ5 _ (.inr (.inr (.inl rfl))))
  have ha:Sees s 5 ((p+1+1:Nat):Int) ⟨1,⟨#[97]⟩,((p+1+1:Nat):Int),((p+1+1+1:Nat):Int),false⟩:=aF4 (a:= [97]) hd2' l1 (ah5 (by decide) (by decide) (by decide) (by decide)) (bD0 _ (.inl rfl) (.inl rfl))
  have hgt:Sees s 5 ((p+1+1+1:Nat):Int) ⟨5,⟨#[62]⟩,((p+1+1+1:Nat):Int),((p+1+1+1+1:Nat):Int),false⟩:=aF4 (a:= [62]) hd3 l2 (ah5 (by decide) (by decide) (by decide) (by decide)) (aQ5 _ (.inr (.inl rfl)))
  have hcl:runQ s m (F+2) (.closing ⟨([97]:List UInt8).toArray⟩ ((p:Nat):Int)) (Zs ((p+1+1:Nat):Int) ⟨5,⟨#[47]⟩,((p+1:Nat):Int),((p+1+1:Nat):Int),false⟩ 0 1 ne ar)= .ok () (Zs ((p+1+1+1+1:Nat):Int) ⟨5,⟨#[62]⟩,((p+1+1+1:Nat):Int),((p+1+1+1+1:Nat):Int),false⟩ 0 1 ne ar):=by
   show al9 s (runQ s m (F+1)) _ _ _=_
   unfold al9
   rw [PM.go (ad6 ha),if_pos rfl,PM.go (aS6 F (ac3 (by decide)) rfl (.inl rfl) hgt rfl rfl)]
   show(if (⟨#[97]⟩:ByteArray)=⟨#[97]⟩ then (ah3 s ⟨#[62]⟩>>=fun _=>pure ()) else bc7 1004 ((p:Nat):Int):PM Unit) (Zs ((p+1+1+1:Nat):Int) ⟨5,⟨#[62]⟩,((p+1+1+1:Nat):Int),((p+1+1+1+1:Nat):Int),false⟩ 5 1 ne ar)=_
   rw [if_pos rfl,PM.go (aq6 (ac3 (by decide)) rfl)]
   rfl
  refine⟨p+1+1+1+1,⟨5,⟨#[62]⟩,((p+1+1+1:Nat):Int),((p+1+1+1+1:Nat):Int),false⟩,?_,ah1 hd3,aq9 hd3⟩
  rw [ag9,if_neg (by omega),PM.go (ad6 (bk9 (.inl rfl) hd)),if_neg (show¬(5:Int)=11 by decide),if_neg (pk_n (by decide) _ _ _),if_pos (pk_y _ _ _ _),PM.go as3,PM.go (ad6 hsl),if_pos (pk_y _ _ _ _),PM.go as3,PM.go hcl]
  rfl
end
theorem aD7 (F:Nat) {nm rest:List UInt8} (hnm:nm= []∨nm= [97]) (fr:Int) (h0:0≤ne) (h9:ne<3990):
  ∀(N:Nat) (ks:List Nat),ks.length≤N→∀(kids:List Nd) (g p:Nat) (ar:Int) (tk:Tk),ks.length<g→s.data.toList.drop p=ks.flatMap jxI++60::47::(nm++62::rest)→p≤s.size→kids.length+ks.length≤4194304→
   ∃l p' u ar2 till,ag9 s (runQ s m (F+12)) ⟨nm.toArray⟩ fr g kids (Zs ((p:Nat):Int) tk 0 1 ne ar)= .ok (.mk 56 ⟨#[]⟩ (kids++l) fr till) (Zs ((p':Nat):Int) u 0 1 ne ar2)∧s.data.toList.drop p'=rest∧p'≤s.size∧ae9 l=jxN [] ks∧ah8 l=true∧ab9 l≤5*ks.length
 |N,ks,hN,kids,g,p,ar,tk,hg,hd,hp,hkl=>by
  obtain⟨g,rfl⟩: ∃g',g=g'+1:=⟨g - 1,by omega⟩
  have hln:=aH7 ks
  by_cases ha:(af3 ks).1= []
  ·have e2:ks.flatMap jxI=(af3 ks).2.flatMap jxI:=by rw [au7 ks,ha,List.nil_append]
   have e3:jxN [] ks=jxN [] (af3 ks).2:=by
    rw [aK9 ks [],ha]
    rfl
   rcases ar5 ks with hf|⟨k,r,hf,hk0⟩
   ·rw [hf] at e2 e3
    rw [e2] at hd
    obtain⟨p',u,h1,h2,h3⟩:=bI1 (m:=m) (kids:=kids) (fr:=fr) (n:=g) (tk:=tk) (ne:=ne) (ar:=ar) (F+10) hnm (by omega) hd
    exact⟨[],p',u,ar,_,by rw [List.append_nil];exact h1,h2,h3,by rw [e3];rfl,rfl,Nat.zero_le _⟩
   ·rw [hf] at e2 e3 hln
    rw [e2,List.flatMap_cons,List.append_assoc] at hd
    rw [e3,aB7,if_neg hk0]
    have hrl:r.length<ks.length:=by have:=hln.1;rw [List.length_cons] at this;omega
    obtain⟨N,rfl⟩: ∃N',N=N'+1:=⟨N - 1,by omega⟩
    have fit: ∀ {a b:List UInt8},s.data.toList.drop p=a++b→s.data.toList.drop (p+a.length)=b∧p+a.length≤s.size:=fun h=>⟨bx0 h,bn9 h hp⟩
    match k,hk0 with
    |1,_=>
     obtain⟨v,hv,ar1,h1⟩:=px_v (m:=m) (kids:=kids) (of:=⟨nm.toArray⟩) (fr:=fr) (n:=g) (tk:=tk) (ar:=ar) F h0 h9 (by omega) hd
     have hf3:=fit hd
     obtain⟨l,p',u,ar2,till,r1,r2,r3,r4,r5,r6⟩:=aD7 F hnm fr h0 h9 N r (by omega) (kids++ [.mk 52 ⟨#[]⟩ [af5 1 v] (p:Int) ((p+1+1+1:Nat):Int)]) g (p+1+1+1) ar1 ⟨5,⟨#[125]⟩,((p+1+1:Nat):Int),((p+1+1+1:Nat):Int),false⟩ (by omega) hf3.1 hf3.2 (by simp;omega)
     refine⟨.mk 52 ⟨#[]⟩ [af5 1 v] (p:Int) ((p+1+1+1:Nat):Int)::l,p',u,ar2,till,?_,r2,r3,?_,?_,?_⟩
     ·rw [h1,r1,List.append_assoc]
      rfl
     ·rw [ae9,r4,ac4,if_neg (by decide),ae9,ae9,bf8 v hv]
      rfl
     ·show(true && ah8 l)=true
      rw [r5]
      rfl
     ·show(1+(1+0+0))+ab9 l≤_
      omega
    |2,_=>
     have h1:=px_0 (R:=runQ s m (F+12)) (kids:=kids) (of:=⟨nm.toArray⟩) (fr:=fr) (n:=g) (tk:=tk) (fl:=1) (ne:=ne) (ar:=ar) (by omega) hd
     have hf3:=fit hd
     obtain⟨l,p',u,ar2,till,r1,r2,r3,r4,r5,r6⟩:=aD7 F hnm fr h0 h9 N r (by omega) (kids++ [.mk 52 ⟨#[]⟩ [.zero] (p:Int) ((p+1+1+1:Nat):Int)]) g (p+1+1+1) ar ⟨5,⟨#[125]⟩,((p+1+1:Nat):Int),((p+1+1+1:Nat):Int),false⟩ (by omega) hf3.1 hf3.2 (by simp;omega)
     refine⟨.mk 52 ⟨#[]⟩ [.zero] (p:Int) ((p+1+1+1:Nat):Int)::l,p',u,ar2,till,?_,r2,r3,?_,?_,?_⟩
     ·rw [h1,r1,List.append_assoc]
      rfl
     ·rw [ae9,r4]
      rfl
     ·show(true && ah8 l)=true
      rw [r5]
      rfl
     ·show(1+(1+0+0))+ab9 l≤_
      omega
    |k+3,_=>
     have h1:=bK4 (m:=m) (kids:=kids) (of:=⟨nm.toArray⟩) (fr:=fr) (n:=g) (tk:=tk) (ar:=ar) (F+10) h0 h9 (by omega) hd
     have hf3:=fit hd
     obtain⟨l,p',u,ar2,till,r1,r2,r3,r4,r5,r6⟩:=aD7 F hnm fr h0 h9 N r (by omega) (kids++ [.mk 47 ⟨#[]⟩ [.mk 48 ⟨#[98]⟩ [] ((p+1:Nat):Int) ((p+1+1:Nat):Int),.mk 49 ⟨#[]⟩ [] ((p+1+1:Nat):Int) ((p+1+1:Nat):Int),.zero] (p:Int) ((p+1+1+1+1:Nat):Int)]) g (p+1+1+1+1) ar ⟨5,⟨#[62]⟩,((p+1+1+1:Nat):Int),((p+1+1+1+1:Nat):Int),false⟩ (by omega) hf3.1 hf3.2 (by simp;omega)
     refine⟨.mk 47 ⟨#[]⟩ [.mk 48 ⟨#[98]⟩ [] ((p+1:Nat):Int) ((p+1+1:Nat):Int),.mk 49 ⟨#[]⟩ [] ((p+1+1:Nat):Int) ((p+1+1:Nat):Int),.zero] (p:Int) ((p+1+1+1+1:Nat):Int)::l,p',u,ar2,till,?_,r2,r3,?_,?_,?_⟩
     ·rw [h1,r1,List.append_assoc]
      rfl
     ·rw [ae9,r4]
      rfl
     ·show(true && ah8 l)=true
      rw [r5]
      rfl
     ·show(1+((1+0)+((1+0)+(1+0+0))))+ab9 l≤_
      omega
  ·have e2:=au7 ks
   have e3:=aK9 ks []
   rw [e2,List.append_assoc] at hd
   obtain⟨c,l',hc,hl'⟩: ∃c l',chC c=true∧(af3 ks).2.flatMap jxI++60::47::(nm++62::rest)=c::l':=by
    rcases ar5 ks with hf|⟨k,r,hf,hk0⟩
    ·rw [hf]
     exact⟨60,_,rfl,rfl⟩
    ·rw [hf]
     match k,hk0 with
     |1,_=>exact⟨123,_,rfl,rfl⟩
     |2,_=>exact⟨123,_,rfl,rfl⟩
     |k+3,_=>exact⟨60,_,rfl,rfl⟩
   have hd':=hd
   rw [hl'] at hd'
   have hs:=bI5 (kind:=11) hd' hp (bc2 l' hc (aN9 ks) ha)
   have hlt:=hln.2 ha
   obtain⟨N,rfl⟩: ∃N',N=N'+1:=⟨N - 1,by omega⟩
   obtain⟨l,p',u,ar2,till,r1,r2,r3,r4,r5,r6⟩:=aD7 F hnm fr h0 h9 N (af3 ks).2 (by omega) (kids++ [af5 54 ⟨11,⟨(af3 ks).1.toArray⟩,(p:Int),((p+(af3 ks).1.length:Nat):Int),false⟩]) g (p+(af3 ks).1.length) ar ⟨11,⟨(af3 ks).1.toArray⟩,(p:Int),((p+(af3 ks).1.length:Nat):Int),false⟩ (by omega) (bx0 hd) (bn9 hd hp) (by simp;omega)
   refine⟨af5 54 ⟨11,⟨(af3 ks).1.toArray⟩,(p:Int),((p+(af3 ks).1.length:Nat):Int),false⟩::l,p',u,ar2,till,?_,r2,r3,?_,?_,?_⟩
   ·rw [bB7 (by omega) hs rfl,r1,List.append_assoc]
    rfl
   ·rw [ae9,r4,e3,List.nil_append,txN,if_neg ha]
    rfl
   ·show(true && ah8 l)=true
    rw [r5]
    rfl
   ·show(1+0)+ab9 l≤_
    omega
variable {f:Nat} {n:Nd} {ar2:Int}
theorem aH2 (F:Nat) {nm rest:List UInt8} (hnm:nm= []∨nm= [97]) (h0:0≤ne) (h9:ne<3990) {ks:List Nat} {p:Nat} (hl:ks.length≤30) (hF:20≤F) (hd:s.data.toList.drop p=ks.flatMap jxI++60::47::(nm++62::rest)) (hp:p≤s.size):
  ∃l p' u ar2 till,runQ s m (F+13) (.children ⟨nm.toArray⟩) (Zs ((p:Nat):Int) tk 0 1 ne ar)= .ok (.mk 56 ⟨#[]⟩ l ((p:Nat):Int) till) (Zs ((p':Nat):Int) u 0 1 ne ar2)∧s.data.toList.drop p'=rest∧p'≤s.size∧ae9 l=jxN [] ks∧ah8 l=true∧ab9 l≤5*ks.length:=by
 obtain⟨l,p',u,ar2,till,r1,r⟩:=aD7 (m:=m) (ne:=ne) F hnm ((p:Nat):Int) h0 h9 ks.length ks (Nat.le_refl _) [] (F+12) p ar tk (by omega) hd hp (by simp;omega)
 refine⟨l,p',u,ar2,till,?_,r⟩
 show an0 s (F+12) (runQ s m (F+12)) _ _=_
 unfold an0
 rw [PM.go (aK6 _)]
 exact r1
theorem bs5 (F:Nat) (fr:Int) {rest:List UInt8} (h0:0≤ne) (h9:ne<3990) {ks:List Nat} {p:Nat} (hl:ks.length≤30) (hF:20≤F) (hd:s.data.toList.drop p=97::62::(ks.flatMap jxI++60::47::97::62::rest)):
  ∃l p' u ar2 till,runQ s m (F+14) (.markup fr) (Zs ((p:Nat):Int) tk 0 1 ne ar)= .ok (.mk 47 ⟨#[]⟩ [.mk 48 ⟨#[97]⟩ [] (p:Int) ((p+1:Nat):Int),.mk 49 ⟨#[]⟩ [] ((p+1:Nat):Int) ((p+1:Nat):Int),.mk 56 ⟨#[]⟩ l ((p+1+1:Nat):Int) till] fr ((p':Nat):Int)) (Zs ((p':Nat):Int) u 0 1 ne ar2)∧s.data.toList.drop p'=rest∧p'≤s.size∧ae9 l=jxN [] ks∧ah8 l=true∧ab9 l≤5*ks.length:=by
 have hd1:=ah1 hd
 have hd2:=ah1 hd1
 have l0:=aq9 hd
 have l1:=aq9 hd1
 have ha:Sees s 5 ((p:Nat):Int) ⟨1,⟨#[97]⟩,(p:Int),((p+1:Nat):Int),false⟩:=aF4 (a:= [97]) hd (Nat.le_of_lt l0) (ah5 (by decide) (by decide) (by decide) (by decide)) (bD0 _ (.inl rfl) (.inl rfl))
 have hgt:Sees s 5 ((p+1:Nat):Int) ⟨5,⟨#[62]⟩,((p+1:Nat):Int),((p+1+1:Nat):Int),false⟩:=aF4 (a:= [62]) hd1 l0 (ah5 (by decide) (by decide) (by decide) (by decide)) (aQ5 _ (.inr (.inl rfl)))
 obtain⟨l,p',u,ar2,till,r1,r⟩:=aH2 (s:=s) (m:=m) (ne:=ne) (ar:=ar) (tk:=⟨5,⟨#[62]⟩,((p+1:Nat):Int),((p+1+1:Nat):Int),false⟩) F (nm:= [97]) (rest:=rest) (.inr rfl) h0 h9 hl hF hd2 l1
 refine⟨l,p',u,ar2,till,?_,r⟩
 show an7 s (runQ s m (F+13)) fr _=_
 unfold an7
 rw [PM.go (aQ4 (ad6 ha) rfl),if_neg (by decide),PM.go (aS6 (F+12) (ac3 (by decide)) rfl (.inl rfl) hgt rfl rfl),PM.go (ac3 (by decide)),if_neg (by rintro(h|h);exact(show¬(5:Int)=1 by decide) h;exact(show¬false=true by decide) h),PM.go (aQ4 (ac3 (by decide)) rfl),if_neg (by decide),PM.go (aq6 (ac3 (by decide)) rfl)]
 exact(PM.go r1).trans rfl
theorem bs7 (F:Nat) (fr:Int) {rest:List UInt8} (h0:0≤ne) (h9:ne<3990) {ks:List Nat} {p:Nat} (hl:ks.length≤30) (hF:20≤F) (hd:s.data.toList.drop p=62::(ks.flatMap jxI++60::47::62::rest)):
  ∃l p' u ar2 till,runQ s m (F+14) (.markup fr) (Zs ((p:Nat):Int) tk 0 1 ne ar)= .ok (.mk 55 ⟨#[]⟩ [.mk 56 ⟨#[]⟩ l ((p+1:Nat):Int) till] fr ((p':Nat):Int)) (Zs ((p':Nat):Int) u 0 1 ne ar2)∧s.data.toList.drop p'=rest∧p'≤s.size∧ae9 l=jxN [] ks∧ah8 l=true∧ab9 l≤5*ks.length:=by
 have hd1:=ah1 hd
 have l0:=aq9 hd
 have hgt:Sees s 5 ((p:Nat):Int) ⟨5,⟨#[62]⟩,(p:Int),((p+1:Nat):Int),false⟩:=aF4 (a:= [62]) hd (Nat.le_of_lt l0) (ah5 (by decide) (by decide) (by decide) (by decide)) (aQ5 _ (.inr (.inl rfl)))
 obtain⟨l,p',u,ar2,till,r1,r⟩:=aH2 (s:=s) (m:=m) (ne:=ne) (ar:=ar) (tk:=⟨5,⟨#[62]⟩,(p:Int),((p+1:Nat):Int),false⟩) F (nm:= []) (rest:=rest) (.inl rfl) h0 h9 hl hF hd1 l0
 refine⟨l,p',u,ar2,till,?_,r⟩
 show an7 s (runQ s m (F+13)) fr _=_
 unfold an7
 rw [PM.go (bn7 (ad6 hgt) rfl),if_pos rfl,PM.go r1]
 rfl
theorem bx5 (ht:Opn 60 t) (b:Bool) (q:Ps):runQ s m (f+2) (.base t b) q=runQ s m f .element1 q:=by
 show aJ9 s m (runQ s m (f+1)) t b q=_
 unfold aJ9
 rw [if_neg (by rw [ht.name];decide),if_neg (by rw [ht.name];decide),if_neg (by rw [ht.name];decide)]
 show am3 (runQ s m f) t q=_
 have hk:=ht.kind
 unfold am3
 rw [if_neg (by omega),if_neg (by omega),if_neg (by omega),if_neg (by omega),if_neg (by rw [ht.no (by decide)];decide),if_neg (by rw [ht.no (by decide)];decide),if_neg (by rw [ht.no (by decide)];decide),if_pos ht.yes]
theorem bc5 {i' ar':Int} {t':Tk} (h:runQ s m f (.markup t.from') (Zs t.till t 0 1 (ne+1) ar)= .ok n (Zs i' t' 0 1 (ne+1) ar')) (h0:0≤ne) (h1:ne<4000):runQ s m (f+1) .element1 (Zs i t g 1 ne ar)= .ok n (Zs i' t' 0 1 ne ar'):=by
 show an2 (runQ s m f) _=_
 unfold an2
 rw [PM.go (aK6 _)]
 refine aK4 h0 h1 ?_
 rw [PM.go as3]
 exact h
theorem bu5 (ht:Opn 60 t) (hs:ab4 s 2 (Zs i t g 1 ne ar)= .ok t (Zs i t g 1 ne ar)) (hb:runQ s m (f+1) (.base t true) (Zs i t g 1 ne ar)= .ok n q) (h22:n.kind≠22) (h1:n.kind≠1) (hq:ab4 s 1 q= .ok u (Zs j u 1 1 ne ar2)) (hu:Endy u):
  runQ s m (f+3) .unary (Zs i t g 1 ne ar)= .ok n (Zs j u 1 1 ne ar2):=by
 have hl:runQ s m (f+2) .leftHand (Zs i t g 1 ne ar)= .ok n (Zs j u 1 1 ne ar2):=by
  show af4 s (f+1) (runQ s m (f+1)) _=_
  unfold af4
  rw [PM.go hs,PM.go (aK6 _)]
  show(runQ s m (f+1) (.base t true)>>=_) _=_
  rw [PM.go hb,if_neg h22,if_neg (by rw [show decide (n.kind=1)=false from decide_eq_false h1];simp)]
  unfold af4.linkL
  rw [PM.go hq,if_neg (by rw [hu.opt];decide),PM.go (bj8 f n true true hu (ac3 (by decide))),if_neg (show¬((false:Bool)=true) by decide)]
  rfl
 show ay4 s (runQ s m (f+2)) _=_
 unfold ay4
 have e1: ∀x:ByteArray,x=⟨#[43]⟩∨x=⟨#[45]⟩∨x=⟨#[126]⟩∨x=⟨#[33]⟩∨x=⟨#[43,43]⟩∨x=⟨#[45,45]⟩→punctT t x=false:=by
  intro x hx
  refine ht.no ?_
  rcases hx with rfl|rfl|rfl|rfl|rfl|rfl<;>decide
 rw [PM.go hs,if_neg (by rw [ht.name,ht.name,ht.name,e1 _ (.inl rfl),e1 _ (.inr (.inl rfl)),e1 _ (.inr (.inr (.inl rfl))),e1 _ (.inr (.inr (.inr (.inl rfl))))];decide),PM.go (aK6 _),if_neg (by rw [ht.name];simp),if_neg (by rw [e1 _ (.inr (.inr (.inr (.inr (.inl rfl))))),e1 _ (.inr (.inr (.inr (.inr (.inr rfl)))))];decide),PM.go hl,if_neg h22,PM.go (ac3 (by decide)),if_neg (by rw [hu.inc,hu.dec];simp)]
 rfl
theorem bh9 (F:Nat) {v:Tk} {p':Nat} (ht:Opn 60 t) (hs2:Sees s 2 0 t) (hv:Sees s 1 t.till v) (hva:punctT v ⟨#[61,62]⟩=false) (hel:runQ s false (F+14) (.markup t.from') (Zs t.till t 0 1 (0+1+1) t.from')= .ok n (Zs ((p':Nat):Int) u 0 1 (0+1+1) ar2))
  (h22:n.kind≠22) (h1:n.kind≠1) (hend:s.data.toList.drop p'= []) (hp:p'≤s.size) (hnp:ar8 n=true) (hz:aa2 n≤8000): ∃q,aA7 s false (F+24)= .ok n q:=by
 have hc:=bx8 p'
 have he:runQ s false (F+15) .element1 (Zs 0 t 2 1 (0+1) t.from')= .ok n (Zs ((p':Nat):Int) u 0 1 (0+1) ar2):=bc5 hel (by decide) (by decide)
 have hb:runQ s false (F+17) (.base t true) (Zs 0 t 2 1 (0+1) t.from')= .ok n (Zs ((p':Nat):Int) u 0 1 (0+1) ar2):=(bx5 ht true _).trans he
 have hu:=bu5 (f:=F+16) ht (ac3 (by decide)) hb h22 h1 (ad6 (bu3 (.inl rfl) hend hp)) hc.stp.e
 have ha:runQ s false (F+23) .assign (ps0 false)= .ok _ _:=bE5 (f:=F+18) (ne:=0) (g:=2) (p:=Zs 0 Tk.zero 0 1 0 (-1)) (by rw [ht.kind];decide) (ht.name _) (ht.name _) (ad6 hs2) (ac3 (by decide)) hu h22 hc hv hva (by decide) (by decide)
 exact⟨_,bE7 (az8 (f:=F+23) ha hc.com) rfl hnp hz⟩
theorem by4 (F:Nat) {ks:List Nat} (hl:ks.length≤30) (hF:20≤F) (hd:s.data.toList=60::97::62::(ks.flatMap jxI++ [60,47,97,62])):
  ∃n q,aA7 s false (F+24)= .ok n q∧ac4 n= .mk 47 ⟨#[]⟩ [.mk 48 ⟨#[97]⟩ [] 0 0,.mk 49 ⟨#[]⟩ [] 0 0,.mk 56 ⟨#[]⟩ (jxN [] ks) 0 0] 0 0∧aa2 n≤154:=by
 have hd0:s.data.toList.drop 0=60::97::62::(ks.flatMap jxI++ [60,47,97,62]):=hd
 have hd1:=ah1 hd0
 have l0:=aq9 hd0
 have hs2:Sees s 2 ((0:Nat):Int) ⟨5,⟨#[60]⟩,((0:Nat):Int),((0+1:Nat):Int),false⟩:=at4 (.inr rfl) (a:= [60]) hd0 (Nat.zero_le _) (ah5 (by decide) (by decide) (by decide) (by decide)) (an9 (by decide) (by decide) ((aP3 (by decide)).trans rfl) (show(1:Nat)≠0 by decide))
 have hg:=bv8 (c:=62) (ks.flatMap jxI++ [60,47,97,62]) (by decide) (by kernel_rfl)
 have hv:Sees s 1 ((0+1:Nat):Int) ⟨1,⟨#[97]⟩,((0+1:Nat):Int),((0+1+1:Nat):Int),false⟩:=at4 (.inl rfl) (a:= [97]) hd1 l0 (ah5 (by decide) (by decide) (by decide) (by decide)) (aI3 (a:= []) (by decide) (aO3 (by decide)) (fun x hx=>by cases hx) hg.1 hg.2)
 obtain⟨l,p',u,ar2,till,r1,r2,r3,r4,r5,r6⟩:=bs5 (s:=s) (m:=false) (ne:=0+1+1) (ar:=((0:Nat):Int)) (tk:=⟨5,⟨#[60]⟩,((0:Nat):Int),((0+1:Nat):Int),false⟩) F ((0:Nat):Int) (rest:= []) (by decide) (by decide) hl hF hd1
 obtain⟨q,hq⟩:=bh9 F ⟨rfl,rfl⟩ hs2 hv (aU4 (by show(1:Int)≠5;decide)) r1 (show(47:Int)≠22 by decide) (show(47:Int)≠1 by decide) r2 r3 (show(true && (true && (ah8 l && true)))=true by rw [r5];rfl) (show 1+((1+0)+((1+0)+((1+ab9 l)+0)))≤8000 by omega)
 refine⟨_,q,hq,?_,(show 1+((1+0)+((1+0)+((1+ab9 l)+0)))≤154 by omega)⟩
 have e:ac4 (.mk 56 ⟨#[]⟩ l ((0+1+1+1:Nat):Int) till)= .mk 56 ⟨#[]⟩ (jxN [] ks) 0 0:=by rw [ac4,if_neg (by decide),r4]
 rw [ac4,if_neg (by decide),ae9,ae9,ae9,ae9,e]
 rfl
theorem by5 (F:Nat) {ks:List Nat} (hl:ks.length≤30) (hF:20≤F) (hd:s.data.toList=60::62::(ks.flatMap jxI++ [60,47,62])):
  ∃n q,aA7 s false (F+24)= .ok n q∧ac4 n= .mk 55 ⟨#[]⟩ [.mk 56 ⟨#[]⟩ (jxN [] ks) 0 0] 0 0∧aa2 n≤152:=by
 have hd0:s.data.toList.drop 0=60::62::(ks.flatMap jxI++ [60,47,62]):=hd
 have hd1:=ah1 hd0
 have l0:=aq9 hd0
 have hs2:Sees s 2 ((0:Nat):Int) ⟨5,⟨#[60]⟩,((0:Nat):Int),((0+1:Nat):Int),false⟩:=at4 (.inr rfl) (a:= [60]) hd0 (Nat.zero_le _) (ah5 (by decide) (by decide) (by decide) (by decide)) (an9 (by decide) (by decide) ((aP3 (by decide)).trans rfl) (show(1:Nat)≠0 by decide))
 have hpl:ai3 1 (62::(ks.flatMap jxI++ [60,47,62]))= .fine 5 1:=by
  have hfirst: ∃d l',(d=32∨d=123∨d=60)∧ks.flatMap jxI++ [60,47,62]=d::l':=by
   match ks with
   | []=>exact⟨60,_,.inr (.inr rfl),rfl⟩
   |0::r=>exact⟨32,_,.inl rfl,rfl⟩
   |1::r=>exact⟨123,_,.inr (.inl rfl),rfl⟩
   |2::r=>exact⟨123,_,.inr (.inl rfl),rfl⟩
   |(k+3)::r=>exact⟨60,_,.inr (.inr rfl),rfl⟩
  obtain⟨d,l',hd,e⟩:=hfirst
  rw [e]
  rcases hd with rfl|rfl|rfl<;>exact an9 (by decide) (by decide) ((aP3 (by decide)).trans rfl) (show(1:Nat)≠0 by decide)
 have hv:Sees s 1 ((0+1:Nat):Int) ⟨5,⟨#[62]⟩,((0+1:Nat):Int),((0+1+1:Nat):Int),false⟩:=at4 (.inl rfl) (a:= [62]) hd1 l0 (ah5 (by decide) (by decide) (by decide) (by decide)) hpl
 obtain⟨l,p',u,ar2,till,r1,r2,r3,r4,r5,r6⟩:=bs7 (s:=s) (m:=false) (ne:=0+1+1) (ar:=((0:Nat):Int)) (tk:=⟨5,⟨#[60]⟩,((0:Nat):Int),((0+1:Nat):Int),false⟩) F ((0:Nat):Int) (rest:= []) (by decide) (by decide) hl hF hd1
 obtain⟨q,hq⟩:=bh9 F ⟨rfl,rfl⟩ hs2 hv (aP6 (by show(⟨#[62]⟩:ByteArray)≠_;decide)) r1 (show(55:Int)≠22 by decide) (show(55:Int)≠1 by decide) r2 r3 (show(ah8 l && true)=true by rw [r5];rfl) (show 1+((1+ab9 l)+0)≤8000 by omega)
 refine⟨_,q,hq,?_,(show 1+((1+ab9 l)+0)≤152 by omega)⟩
 have e:ac4 (.mk 56 ⟨#[]⟩ l ((0+1+1:Nat):Int) till)= .mk 56 ⟨#[]⟩ (jxN [] ks) 0 0:=by rw [ac4,if_neg (by decide),r4]
 rw [ac4,if_neg (by decide),ae9,ae9,e]
end
end
section
open Go.RowKit
def ai1 (a:List Nd × List UInt8) (k:Nat):List Nd × List UInt8:=if k=0 then (a.1,a.2++jxI 0) else (a.1++txN a.2++ [jxD k],[])
def jxG (ks:List Nat):List Nd × List UInt8:=ks.foldl ai1 ([],[])
theorem aK8: ∀(ks:List Nat) (K:List Nd) (pc:List UInt8),K++jxN pc ks=(ks.foldl ai1 (K,pc)).1++txN (ks.foldl ai1 (K,pc)).2
 | [],_,_=>rfl
 |k::ks,K,pc=>by
  rw [aB7,List.foldl_cons]
  by_cases hk:k=0
  ·rw [if_pos hk,show ai1 (K,pc) k=(K,pc++jxI 0) from if_pos hk,←aK8 ks]
  ·rw [if_neg hk,show ai1 (K,pc) k=(K++txN pc++ [jxD k],[]) from if_neg hk,←aK8 ks]
   simp
theorem bz1 (ks:List Nat):jxN [] ks=(jxG ks).1++txN (jxG ks).2:=by
 have:=aK8 ks [] []
 rw [List.nil_append] at this
 exact this
theorem aZ8 (ks:List Nat) (k:Nat):jxG (ks++ [k])=ai1 (jxG ks) k:=by unfold jxG;rw [List.foldl_append];rfl
theorem aS7 (ks:List Nat) (k:Nat):(ks++ [k]).flatMap jxI=ks.flatMap jxI++jxI k:=by rw [List.flatMap_append,List.flatMap_cons,List.flatMap_nil,List.append_nil]
theorem bF7 (k:Nat):(jxI k).length≤4:=by
 match k with
 |0=>decide
 |1=>decide
 |2=>decide
 |_+3=>exact Nat.le_of_ble_eq_true rfl
theorem ay9: ∀ks:List Nat,(ks.flatMap jxI).length≤4*ks.length
 | []=>Nat.le_refl _
 |k::ks=>by
  have:=ay9 ks
  have:=bF7 k
  rw [List.flatMap_cons,List.length_append,List.length_cons]
  omega
end
end Go.Proofs.YtokfgpjclmdllaaGreatDoor
