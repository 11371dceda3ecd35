/- Steps (DrP DrQ DrR Tat SwP). Conditions: as stated. -/
import Derived.Test.YtnahajcjpmbflaaGreatDoorPs39
namespace Go.Proofs.YtnahajcjpmbflaaGreatDoor
section
open Go.RowKit
section
variable {s:ByteArray}
theorem btw_gap {r:List UInt8} : ∀(gap:List UInt8) (p:Nat) (line:Bool),(∀c ∈ gap,c=32∨c=10)→s.data.toList.drop p=gap++r→∃line',btw s p line=btw s (p+gap.length) line'
 | [],p,line,_,_=>⟨line,rfl⟩
 |c::gap,p,line,h,hd=>by
  have hc:=h c (.head _)
  have hlt:=tx_lt (c:=c) (l:=gap++r) hd
  have h1:isGap (c::(gap++r))=true:=by
   unfold isGap
   rcases hc with rfl|rfl<;>(rw [nx_ascii _ _ (by decide)];rfl)
  have h2:(nx (c::(gap++r))).2.toNat=1:=by rcases hc with rfl|rfl<;>(rw [nx_ascii _ _ (by decide)];rfl)
  obtain⟨l',e⟩:=btw_gap gap (p+1) (line||endsR (nx (c::(gap++r))).1) (fun c hc=>h c (.tail _ hc)) (tx_next hd)
  refine⟨l',?_⟩
  rw [btw_step s p line (by omega),hd,List.cons_append,if_pos h1,h2,e,List.length_cons,show p+1+gap.length=p+(gap.length+1) by omega]
theorem sees_gap {gap a l:List UInt8} {kind:Int} {p:Nat} (hgap: ∀c ∈ gap,c=32∨c=10) (hd:s.data.toList.drop p=gap++(a++l)) (hp:p≤s.size) (hi:Ink0 (a++l)) (ht: ∀g:Int,g=1∨g=2→plainT g (a++l)= .fine kind a.length):
  ∃t:Tk,t.kind=kind∧t.text=⟨a.toArray⟩∧t.till=((p+gap.length+a.length:Nat):Int)∧∀g:Int,g=1∨g=2→Sees s g p t:=by
 obtain⟨line,hb⟩:=btw_gap gap p false hgap hd
 have hq:=tx_app hd
 have hf:=tx_fits hd hp
 refine⟨⟨kind,⟨a.toArray⟩,((p+gap.length:Nat):Int),((p+gap.length+a.length:Nat):Int),line⟩,rfl,rfl,rfl,fun g hg=> ?_⟩
 refine⟨by omega,by omega,p+gap.length,a.length,?_,?_⟩
 ·rw [Int.toNat_natCast]
  have hb2:btw s p false= .fine (p+gap.length) line []:=hb.trans (btw_ink hq hf ⟨hi.1,hi.2 _⟩)
  have ht2:=ht g hg
  rw [←hq] at ht2
  unfold nxt tokT
  rcases hg with rfl|rfl<;>
  ·rw [if_neg (by rintro(h|h|⟨h,_⟩)<;>omega),if_neg (by decide),hb2]
   simp only
   rw [if_neg (by decide),if_neg (by decide),if_neg (by decide),ht2]
 ·unfold tkOf
  rw [tx_piece hq]
end
section
variable {s:ByteArray} {m:Bool} {i j ne ar ar2:Int} {t u v w b o e:Tk} {n r:Nd} {p:Ps} {f:Nat}
theorem opn_endy {c:UInt8} (h:Opn c u) (hc:c=59∨c=44∨c=43∨c=41):Endy u:=by
 have hk:=h.kind
 exact⟨h.no (by rcases hc with rfl|rfl|rfl|rfl<;>decide),h.no (by rcases hc with rfl|rfl|rfl|rfl<;>decide),h.no (by rcases hc with rfl|rfl|rfl|rfl<;>decide),h.no (by rcases hc with rfl|rfl|rfl|rfl<;>decide),by omega,by omega,h.no (by rcases hc with rfl|rfl|rfl|rfl<;>decide),h.no (by rcases hc with rfl|rfl|rfl|rfl<;>decide)⟩
theorem opn_asg {c:UInt8} (h:Opn c u) (hc:c=59∨c=44):assigningT u=false:=by
 unfold assigningT
 rw [h.text]
 rcases hc with rfl|rfl<;>(rw [Bool.and_eq_false_iff];right;decide)
theorem opn_stp {c:UInt8} (h:Opn c u) (hc:c=59∨c=44):Stp u:=⟨.inr (by rw [h.text];rcases hc with rfl|rfl<;>decide),opn_endy h (by rcases hc with rfl|rfl<;>simp)⟩
theorem semi_cls (h:Opn 59 u):Cls u:=⟨opn_stp h (.inl rfl),h.no (by decide),opn_asg h (.inl rfl),h.no (by decide),h.no (by decide)⟩
theorem unary_of_left (h1:t.kind≠1) (h5:t.kind≠5) (hl:runQ s m f .leftHand (Zs i t 2 1 ne ar)= .ok n (Zs j u 1 1 ne ar2)) (h22:n.kind≠22) (hu:Endy u):runQ s m (f+1) .unary (Zs i t 2 1 ne ar)= .ok n (Zs j u 1 1 ne ar2):=by
 show unaryS s (runQ s m f) _=_
 unfold unaryS
 rw [PM.go (peek_old (by decide)),if_neg (by rw [nameT_kind h1,nameT_kind h1,nameT_kind h1,punctT_kind h5,punctT_kind h5,punctT_kind h5,punctT_kind h5];decide),PM.go (get_z _),if_neg (by rw [nameT_kind h1];simp),if_neg (by rw [punctT_kind h5,punctT_kind h5];decide),PM.go hl,if_neg h22,PM.go (peek_old (by decide)),if_neg (by rw [hu.inc,hu.dec];simp)]
 rfl
theorem dir_step {e g:Nat} {tk:Tk} {dir:Bool} {kids:List Nd} {R:Res (List Nd)} (hs2:Sees s 2 i t) (hend:endB e t=false) (hst:runQ s m (f+1) (.statement t true) (Zs i t 2 1 (ne+1) ar)= .ok n (Zs j v 0 1 (ne+1) ar2)) (h0:0≤ne) (h9:ne<4000)
  (hr:(if dir && decide (n.kind=57) then do
    let k←ofO n.kids.head?
    if k.kind=4 then dirL s (runQ s m (f+1)) false e g true (kids++ [.mk 78 k.text [] n.from' n.till]) else dirL s (runQ s m (f+1)) false e g false (kids++ [n])
   else dirL s (runQ s m (f+1)) false e g false (kids++ [n]):PM (List Nd)) (Zs j v 0 1 ne ar2)=R):
  dirL s (runQ s m (f+1)) false e (g+1) dir kids (Zs i tk 0 1 ne ar)=R:=by
 unfold dirL
 rw [PM.go (peek_new hs2),if_neg (by rw [hend];decide),PM.go (deeper_z (a:=n) h0 h9 (one_stmt hst))]
 exact hr
structure Tat (s:ByteArray) (p:Nat) (kind:Int) (x:ByteArray) (l:List UInt8) (p':Nat) (t:Tk):Prop where
 kind:t.kind=kind
 text:t.text=x
 till:t.till=(p':Int)
 sees: ∀g:Int,g=1∨g=2→Sees s g p t
 rest:s.data.toList.drop p'=l
 le:p'≤s.size
theorem tat_any {gap a l:List UInt8} {kind:Int} {p:Nat} (hgap: ∀c ∈ gap,c=32∨c=10) (hd:s.data.toList.drop p=gap++(a++l)) (hp:p≤s.size) (hi:Ink0 (a++l)) (ht: ∀g:Int,g=1∨g=2→plainT g (a++l)= .fine kind a.length):
  ∃p' t,Tat s p kind ⟨a.toArray⟩ l p' t:=by
 obtain⟨t,e1,e2,e3,e4⟩:=sees_gap hgap hd hp hi ht
 refine⟨_,t,e1,e2,e3,e4,tx_app (tx_app hd),?_⟩
 have h1:=tx_fits hd hp
 have h2:=tx_fits (tx_app hd) h1
 exact h2
theorem pct_one {g:Int} {c:UInt8} {l:List UInt8} (h:c=59∨c=44∨c=40∨c=41):pct g (c::l)=1:=by
 rcases h with rfl|rfl|rfl|rfl<;>exact(pct_no (by decide)).trans rfl
theorem tat_mark {c:UInt8} {gap l:List UInt8} {p:Nat} (hc:c=59∨c=44∨c=40∨c=41) (hgap: ∀c ∈ gap,c=32∨c=10) (hd:s.data.toList.drop p=gap++(c::l)) (hp:p≤s.size): ∃p' t,Tat s p 5 ⟨#[c]⟩ l p' t:=
 tat_any (a:= [c]) hgap hd hp (by rcases hc with rfl|rfl|rfl|rfl<;>exact ink0_of (by decide) (by decide) (by decide) (by decide)) (fun _ _=>plain_markg (by rcases hc with rfl|rfl|rfl|rfl<;>decide) (by rcases hc with rfl|rfl|rfl|rfl<;>decide) (pct_one hc) (show(1:Nat)≠0 by decide))
theorem Tat.opn {c:UInt8} {p p':Nat} {l:List UInt8} (h:Tat s p 5 ⟨#[c]⟩ l p' t):Opn c t:=⟨h.kind,h.text⟩
theorem Tat.seen {g:Int} {k:Int} {x:ByteArray} {p p':Nat} {l:List UInt8} {t':Tk} (h:Tat s p k x l p' t) (hg:g=1∨g=2) (hq:t'.till=(p:Int)):Sees s g t'.till t:=by rw [hq];exact h.sees g hg
theorem Tat.go {k:Int} {x:ByteArray} {p p':Nat} {l:List UInt8} (h:Tat s p k x l p' t):t.till=(p':Int):=h.till
theorem gap0: ∀c ∈ ([]:List UInt8),c=32∨c=10:=by simp
theorem gap1: ∀c ∈ ([32]:List UInt8),c=32∨c=10:=by simp
end
end
section
open Go.RowKit
theorem noProps_all: ∀ {l:List Nd},(∀n ∈ l,noProp n=true)→noProps l=true
 | [],_=>rfl
 |n::l,h=>by
  show(noProp n && noProps l)=true
  rw [h n (.head _),noProps_all (l:=l) fun x hx=>h x (.tail _ hx)]
  rfl
section
variable {s:ByteArray} {m:Bool} {i ne ar ar2:Int} {t u v:Tk} {n:Nd}
theorem end_gap {gap:List UInt8} {p:Nat} (hgap: ∀c ∈ gap,c=32∨c=10) (hd:s.data.toList.drop p=gap++ []) (hp:p≤s.size): ∃t,Sees s 2 p t∧endB 0 t=true∧t.kind=0:=by
 obtain⟨t,e1,_,_,e4⟩:=sees_gap (s:=s) (gap:=gap) (a:= []) (l:= []) (kind:=0) hgap hd hp ⟨rfl,fun p=>by unfold cmKind;rw [if_neg (by decide),if_neg (by decide),if_neg (by simp [Lib.hasPrefix])]⟩ (fun _ _=>rfl)
 exact⟨t,e4 2 (.inr rfl),by unfold endB;rw [if_pos rfl,decide_eq_true e1],e1⟩
theorem prog_list (F:Nat) {l:List Nd} {q:Nat} {t:Tk} (hl:dirL s (runQ s false F) false 0 F true [] (Zs 0 Tk.zero 0 1 0 (-1))= .ok l (Zs ((q:Nat):Int) t 2 1 0 ar2)) (hn: ∀n ∈ l,noProp n=true) (hz:ndSizes l≤7000):
  ∃q',programQ s false (F+2)= .ok (.mk 86 ⟨#[]⟩ l 0 s.size) q':=by
 have hst:runQ s false (F+1) (.statements true false 0) (Zs 0 Tk.zero 0 1 0 (-1))= .ok l (Zs ((q:Nat):Int) t 2 1 0 ar2):=hl
 have hprog:runQ s false (F+2) .program (ps0 false)= .ok (.mk 86 ⟨#[]⟩ l 0 s.size) (Zs t.till t 0 1 0 ar2):=by
  show programS s false (runQ s false (F+1)) (Zs 0 Tk.zero 0 1 0 (-1))=_
  unfold programS
  rw [PM.go hst,PM.go take_z]
  rfl
 have hN:ndSize (.mk 86 ⟨#[]⟩ l 0 s.size)=1+ndSizes l:=rfl
 have hd:=deep_le (.mk 86 ⟨#[]⟩ l 0 s.size)
 refine⟨Zs t.till t 0 1 0 ar2,?_⟩
 unfold programQ readQ
 rw [PM.go hprog,if_neg (by rw [show noProp (.mk 86 ⟨#[]⟩ l 0 s.size)=noProps l from rfl,noProps_all hn];decide),if_neg (by omega),if_neg (by omega)]
 rfl
theorem tat_open {gap l:List UInt8} {p:Nat} (hgap: ∀c ∈ gap,c=32∨c=10) (hd:s.data.toList.drop p=gap++(123::l)) (hp:p≤s.size): ∃p' t,Tat s p 5 ⟨#[123]⟩ l p' t:=
 tat_any (a:= [123]) hgap hd hp (ink0_of (by decide) (by decide) (by decide) (by decide)) (fun _ _=>plain_markg (by decide) (by decide) ((pct_no (by decide)).trans rfl) (show(1:Nat)≠0 by decide))
theorem prog_one (F:Nat) {p':Nat} (h2:Sees s 2 0 t) (hk:t.kind≠0) (hs:runQ s false (F+2) (.statement t true) (Zs 0 t 2 1 1 (-1))= .ok n (Zs ((p':Nat):Int) u 0 1 1 ar2)) (hn:n.kind≠57) (hd:s.data.toList.drop p'= []) (hp:p'≤s.size) (hpr:noProp n=true) (hz:ndSize n≤6000):
  ∃q,programQ s false (F+4)= .ok (.mk 86 ⟨#[]⟩ [n] 0 s.size) q:=by
 obtain⟨e,e1,e2,e3⟩:=end_gap (s:=s) (gap:= []) (by simp) (by rw [hd];rfl) hp
 have hL:dirL s (runQ s false (F+2)) false 0 (F+2) true [] (Zs 0 Tk.zero 0 1 0 (-1))= .ok [n] (Zs ((p':Nat):Int) e 2 1 0 ar2):=by
  refine dir_step (f:=F+1) (ne:=0) h2 (by unfold endB;rw [if_pos rfl];exact decide_eq_false hk) hs (by decide) (by decide) ?_
  rw [if_neg (by rw [decide_eq_false hn];decide)]
  unfold dirL
  rw [PM.go (peek_new e1),if_pos e2]
  rfl
 exact prog_list (s:=s) (F+2) (l:= [n]) hL (by simpa using hpr) (by show ndSize n+0≤7000;omega)
end
end
section
open Go.RowKit
theorem read_size {x:PM Nd} {p q:Ps} {n:Nd} (h:readQ x p= .ok n q):noProp n=true∧ndSize n≤4194304∧ndDeep n≤8000:=by
 have e:readQ x p=PM.bind x (fun n=>if noProp n=false then outP else if 4194304<ndSize n then outP else if 8000<ndDeep n then failP 1002 0 else return n) p:=rfl
 rw [e] at h
 unfold PM.bind at h
 cases hx:x p with
 |out=>rw [hx] at h;cases h
 |bad c k=>rw [hx] at h;cases h
 |ok n' p'=>
  rw [hx] at h
  simp only at h
  split at h
  ·cases h
  ·rename_i h1
   split at h
   ·cases h
   ·rename_i h2
    split at h
    ·cases h
    ·rename_i h3
     cases h
     exact⟨by simpa using h1,by omega,by omega⟩
end
section
open Go.RowKit
theorem ofl2 (l:List UInt8):(⟨l.toArray⟩:ByteArray).size=l.length:=by
 show l.toArray.size=_
 simp
theorem ba_at {s:ByteArray} {i:Nat} (h:i<s.size) {c:UInt8} (hc:s.data.toList[i]? =some c):s[i]=c:=by
 have h2:i<s.data.size:=h
 have:s.data[i]'h2=c:=by
  rw [Array.getElem?_toList] at hc
  rw [Array.getElem?_eq_getElem h2] at hc
  exact Option.some.inj hc
 exact this
theorem goes_c {c:UInt8} (l:List UInt8) (h:c.toNat<128) (hp:partC ((c.toNat:Nat):Int)=false):goesP false (c::l)=false∧0≤(nx (c::l)).2:=by
 refine⟨?_,by rw [nx_ascii _ _ h];exact(show(0:Int)≤1 by decide)⟩
 unfold goesP
 rw [nx_ascii _ _ h]
 simp only [hp,Bool.false_and,Bool.or_false,Bool.and_false]
section
variable {s:ByteArray} {m:Bool} {i j ne ar ar2:Int} {t u:Tk} {n:Nd} {f:Nat}
theorem tat_low {c:UInt8} {gap a l:List UInt8} {p:Nat} (hgap: ∀c ∈ gap,c=32∨c=10) (hc:low c) (ha: ∀c ∈ a,low c) (hl:goesP false l=false∧0≤(nx l).2) (hd:s.data.toList.drop p=gap++((c::a)++l)) (hp:p≤s.size): ∃p' t,Tat s p 1 ⟨(c::a).toArray⟩ l p' t:=
 tat_any hgap hd hp (ink0_of (by omega) (by omega) (by rintro rfl;exact absurd hc (by decide)) (by rintro rfl;exact absurd hc (by decide))) (fun _ _=>plain_word hc (low_start hc) (fun x hx=>low_word (ha x hx)) hl.1 hl.2)
theorem unary_of_leftN (h:Nm t) (hl:runQ s m f .leftHand (Zs i t 2 1 ne ar)= .ok n (Zs j u 1 1 ne ar2)) (h22:n.kind≠22) (hu:Endy u):runQ s m (f+1) .unary (Zs i t 2 1 ne ar)= .ok n (Zs j u 1 1 ne ar2):=by
 show unaryS s (runQ s m f) _=_
 unfold unaryS
 rw [PM.go (peek_old (by decide)),if_neg (by rw [h.nameT (by decide),h.nameT (by decide),h.nameT (by decide),h.punctT,h.punctT,h.punctT,h.punctT];decide),PM.go (get_z _),if_neg (by rw [nameT_ne h.aw];simp),if_neg (by rw [h.punctT,h.punctT];decide),PM.go hl,if_neg h22,PM.go (peek_old (by decide)),if_neg (by rw [hu.inc,hu.dec];simp)]
 rfl
end
end
section
open Go.RowKit
structure NumD (d:List UInt8):Prop where
 ne:d≠ []
 dig: ∀c ∈ d,48≤c.toNat∧c.toNat≤57
 hd:d= [48]∨d.head?≠some 48
theorem isD_dig {c:UInt8} (h:48≤c.toNat∧c.toNat≤57):isD 0 c=true:=by
 unfold isD
 by_cases h1:48≤c.toNat∧c.toNat≤49
 ·rw [if_pos h1]
 ·rw [if_neg h1]
  by_cases h2:50≤c.toNat∧c.toNat≤55
  ·rw [if_pos h2];decide
  ·rw [if_neg h2,if_pos (by omega)];decide
theorem runN_dig (l:List UInt8): ∀(d:List UInt8) (p:Bool),(∀c ∈ d,48≤c.toNat∧c.toNat≤57)→runN 0 p (d++58::l)=d.length
 | [],p,_=>by
  show runN 0 p (58::l)=0
  rw [runN,if_neg (by rw [show isD 0 58=false by kernel_rfl];decide),if_neg (fun h=>absurd h.1 (by decide))]
 |c::d,p,h=>by
  show runN 0 p (c::(d++58::l))=_
  rw [runN,if_pos (isD_dig (h c (.head _))),runN_dig l d true (fun x hx=>h x (.tail _ hx)),List.length_cons]
theorem num_oth {d l:List UInt8} (h:NumD d):isOth ⟨(d++58::l).toArray⟩=false:=by
 unfold isOth
 split
 ·rename_i h2
  obtain⟨h0,hdg,hh⟩:=h
  rcases hh with rfl|hh
  ·have e1:(⟨([48]++58::l).toArray⟩:ByteArray)[1]=58:=ba_at (by omega) (by simp)
   rw [e1]
   simp
  ·cases d with
   |nil=>exact absurd rfl h0
   |cons c d=>
    have e0:(⟨((c::d)++58::l).toArray⟩:ByteArray)[0]=c:=ba_at (by omega) (by simp)
    rw [e0]
    have hc:(c==48)=false:=by
     rw [beq_eq_false_iff_ne]
     rintro rfl
     exact hh rfl
    rw [hc]
    rfl
 ·rfl
theorem longL_num {d l:List UInt8} (h:NumD d):longL (d++58::l)=d.length:=by
 have hS:(⟨(d++58::l).toArray⟩:ByteArray).data.toList=d++58::l:=by simp
 have hz:(⟨(d++58::l).toArray⟩:ByteArray).size=d.length+(l.length+1):=by rw [ofl2];simp
 have ho:=num_oth (l:=l) h
 unfold longL longB scanB
 rw [ho,if_neg (show¬((false:Bool)=true) by decide)]
 generalize (⟨(d++58::l).toArray⟩:ByteArray)=S at hS hz⊢
 have hw:(wholeO S).2=S.extract d.length S.size∧(wholeO S).1.size=d.length:=by
  unfold wholeO
  obtain⟨h0,hdg,hh⟩:=h
  rcases hh with rfl|hh
  ·rw [if_pos (by rw [hS];rfl)]
   exact⟨rfl,rfl⟩
  ·rw [if_neg]
   ·unfold runB
    rw [hS,runN_dig l d false hdg]
    refine⟨rfl,?_⟩
    rw [ByteArray.size_extract]
    omega
   ·rw [hS]
    cases d with
    |nil=>exact absurd rfl h0
    |cons c d=>
     show¬Lib.hasPrefix (c::(d++58::l)) [48]=true
     rw [pre_no (by rintro rfl;exact hh rfl)]
     decide
 have hr:(S.extract d.length S.size).data.toList=58::l:=by rw [extract_drop,hS,List.drop_left]
 have hrz:(S.extract d.length S.size).size=l.length+1:=by rw [ByteArray.size_extract];omega
 obtain⟨hw1,hw2⟩:=hw
 have hd0:d.length≠0:=fun e=>h.ne (List.length_eq_zero_iff.1 e)
 have hp:partO (wholeO S).2=(false,emp,S.extract d.length S.size):=by
  rw [hw1]
  unfold partO
  rw [if_neg (by rw [hr,pre_no (by decide)];decide)]
 have he: ∀x:Lit,expL x (S.extract d.length S.size)=(x,S.extract d.length S.size):=by
  intro x
  unfold expL expO
  rw [dif_pos (by omega)]
  have e0:(S.extract d.length S.size)[0]'(by omega)=58:=ba_at (by omega) (by rw [hr];rfl)
  rw [e0,if_neg (by decide)]
 have hb: ∀x:Lit,bigL x (S.extract d.length S.size)=(x,S.extract d.length S.size):=by
  intro x
  unfold bigL
  rw [if_neg (by rw [hr,pre_no (by decide)];simp)]
 have hsc:(scanDec S).2=(S.extract d.length S.size,true):=by
  unfold scanDec
  simp only
  rw [hp,if_neg (by rw [hw2];simp [hd0])]
  simp only
  rw [he,hb]
 rw [hsc]
 simp only [if_true]
 rw [hrz,hz]
 omega
theorem plain_num {g:Int} {d l:List UInt8} (h:NumD d):plainT g (d++58::l)= .fine 3 d.length:=by
 have hl:=longL_num (l:=l) h
 have hn:numL (d++58::l)=d.length:=by
  unfold numL
  rw [hl,List.drop_left,nx_ascii _ _ (by decide),if_neg]
  simp only
  rintro⟨_,h|h⟩
  ·rw [show startC ((58:UInt8).toNat:Int)=false by kernel_rfl] at h;cases h
  ·rw [show digAt (58::l)=false from rfl] at h;cases h
 have hd0:d.length≠0:=fun e=>h.ne (List.length_eq_zero_iff.1 e)
 have ht:numT (d++58::l)= .fine 3 d.length:=by
  unfold numT aft
  rw [hn,if_neg hd0,List.drop_left,nx_ascii _ _ (by decide),if_neg (by decide)]
 obtain⟨h0,hdg,_⟩:=h
 cases d with
 |nil=>exact absurd rfl h0
 |cons c d=>
  have hc:=hdg c (.head _)
  have hne: ∀x:UInt8,¬(48≤x.toNat∧x.toNat≤57)→c≠x:=by rintro x hx rfl;exact hx hc
  rw [←ht]
  show plainT g (c::(d++58::l))=_
  unfold plainT
  rw [if_neg (by simp),if_neg (by rw [pre_no (hne _ (by decide))];decide),if_neg (by rw [pre_no (hne _ (by decide))];decide),if_pos (.inl (by unfold digAt;exact decide_eq_true hc))]
  rfl
section
variable {s:ByteArray} {m:Bool} {i j ne ar ar2:Int} {t u v w b o c e tk:Tk} {n r:Nd} {p q:Ps} {f:Nat}
theorem tat_colon {gap l:List UInt8} {p:Nat} (hgap: ∀c ∈ gap,c=32∨c=10) (hd:s.data.toList.drop p=gap++(58::l)) (hp:p≤s.size): ∃p' t,Tat s p 5 ⟨#[58]⟩ l p' t:=
 tat_any (a:= [58]) hgap hd hp (ink0_of (by decide) (by decide) (by decide) (by decide)) (fun _ _=>plain_markg (by decide) (by decide) ((pct_no (by decide)).trans rfl) (show(1:Nat)≠0 by decide))
theorem tat_num {gap d l:List UInt8} {p:Nat} (hgap: ∀c ∈ gap,c=32∨c=10) (h:NumD d) (hd:s.data.toList.drop p=gap++(d++58::l)) (hp:p≤s.size): ∃p' t,Tat s p 3 ⟨d.toArray⟩ (58::l) p' t:=by
 refine tat_any hgap hd hp ?_ (fun _ _=>plain_num h)
 obtain⟨h0,hdg,_⟩:=h
 cases d with
 |nil=>exact absurd rfl h0
 |cons c d=>
  have hc:=hdg c (.head _)
  exact ink0_of (by omega) (by omega) (by rintro rfl;simp at hc) (by rintro rfl;simp at hc)
theorem colon_endy (h:Opn 58 u):Endy u:=by
 have hk:=h.kind
 exact⟨h.no (by decide),h.no (by decide),h.no (by decide),h.no (by decide),by omega,by omega,h.no (by decide),h.no (by decide)⟩
theorem colon_cls (h:Opn 58 u):Cls u:=⟨⟨.inr (by rw [h.text];decide),colon_endy h⟩,h.no (by decide),by unfold assigningT;rw [h.text];rw [Bool.and_eq_false_iff];right;decide,h.no (by decide),h.no (by decide)⟩
theorem par_cls (h:Opn 41 u):Cls u:=⟨⟨.inr (by rw [h.text];decide),opn_endy h (by simp)⟩,h.no (by decide),by unfold assigningT;rw [h.text];rw [Bool.and_eq_false_iff];right;decide,h.no (by decide),h.no (by decide)⟩
theorem args_0 (f:Nat) (hp:peekP s 1 p= .ok o (Zs i o 1 1 ne ar)) (ho:Opn 40 o) (hsc:Sees s 2 o.till c) (hc:Opn 41 c):runQ s m (f+3) .args p= .ok (.mk 36 ⟨#[]⟩ [] o.from' c.till) (Zs c.till c 0 1 ne ar):=by
 show argsS s (runQ s m (f+2)) p=_
 unfold argsS
 have hw:wantP s ⟨#[40]⟩ p= .ok o (Zs o.till o 0 1 ne ar):=by
  unfold wantP
  rw [PM.go hp,if_pos ho.yes]
  rfl
 rw [PM.go hw]
 show argumentsQ s (f+1) (runQ s m (f+1)) o.from' _=_
 unfold argumentsQ
 have hl:listP s ⟨#[41]⟩ 2 (fun kids=>if 4194304<kids.length then outP else do
   let k←runQ s m (f+1) .spread
   commaP s k
   return kids++ [k]) (f+1) ([]:List Nd) false (Zs o.till o 0 1 ne ar)= .ok ([],false) (Zs c.till c 0 1 ne ar):=by
  unfold listP
  rw [PM.go (peek_new hsc),if_pos hc.yes,PM.go take_z]
  rfl
 rw [PM.go (with_z hl)]
 rfl
def callN (t o c:Tk):Nd:= .mk 35 ⟨#[]⟩ [leafN 1 t,.mk 36 ⟨#[]⟩ [] o.from' c.till] t.from' c.till
theorem left_call (F:Nat) (h:Nm t) (hso:Sees s 1 t.till o) (ho:Opn 40 o) (hsc:Sees s 2 o.till c) (hc:Opn 41 c) (hsu:Sees s 1 c.till u) (hu:Endy u):
  runQ s m (F+6) .leftHand (Zs i t 2 1 ne ar)= .ok (callN t o c) (Zs c.till u 1 1 ne ar):=by
 show leftHandS s (F+5) (runQ s m (F+5)) _=_
 unfold leftHandS
 rw [PM.go (peek_old (by decide)),PM.go (get_z _)]
 show(runQ s m (F+5) (.base t true)>>=_) _=_
 have hlk:runQ s m (F+5) (.link (leafN 1 t) true true) (Zs t.till o 1 1 ne ar)= .ok (callN t o c,true) (Zs c.till c 0 1 ne ar):=by
  show linkS s (runQ s m (F+4)) _ true true _=_
  unfold linkS
  rw [PM.go (peek_old (by decide)),if_neg (by rw [ho.no (by decide)];decide),if_neg (by rw [ho.no (by decide)];decide),if_pos (by rw [ho.yes];rfl),PM.go (args_0 (F+1) (peek_old (by decide)) ho hsc hc)]
  rfl
 rw [PM.go (base_z (F+2) h (.inr rfl) true),if_neg (leaf_k t),if_neg (by rw [show decide ((leafN 1 t).text=⟨#[97,115,121,110,99]⟩)=false from decide_eq_false h.asy];simp)]
 unfold leftHandS.linkL
 rw [PM.go (peek_new hso),if_neg (by rw [ho.no (by decide)];decide),PM.go hlk,if_pos rfl]
 unfold leftHandS.linkL
 rw [PM.go (peek_new hsu),if_neg (by rw [hu.opt];decide),PM.go (link_no (F+4) _ true true hu (peek_old (by decide))),if_neg (show¬((false:Bool)=true) by decide)]
 rfl
theorem assign_call (F:Nat) (h:Nm t) (hso:Sees s 1 t.till o) (ho:Opn 40 o) (hsc:Sees s 2 o.till c) (hc:Opn 41 c) (hsu:Sees s 1 c.till u) (hu:Cls u) (h0:0≤ne) (h9:ne<4000):
  runQ s m (F+11) .assign (Zs i t 2 1 ne ar)= .ok (callN t o c) (Zs c.till u 1 1 ne t.from'):=
 climbU (f:=F+6) (by rw [h.kind];decide) (nameT_ne (h.ne (by decide))) (nameT_ne h.asy) (peek_old (by decide)) (peek_old (by decide)) (unary_of_leftN h (left_call F h hso ho hsc hc hsu hu.stp.e) (show¬(35:Int)=22 by decide) hu.stp.e) (show¬(35:Int)=22 by decide) hu hso (ho.no (by decide)) h0 h9
theorem stmt_call (F:Nat) (h:Nm t) (hkw:oneOf t.text kwW=false) (hso:Sees s 1 t.till o) (ho:Opn 40 o) (hsc:Sees s 2 o.till c) (hc:Opn 41 c) (hsu:Sees s 1 c.till u) (hu:Opn 59 u) (h0:0≤ne) (h9:ne<4000):
  runQ s m (F+14) (.statement t true) (Zs i t 2 1 ne ar)= .ok (.mk 57 ⟨#[]⟩ [callN t o c] t.from' u.till) (Zs u.till u 0 1 ne t.from'):=by
 have hcl:=semi_cls hu
 have hk:=h.kind
 have he:runQ s m (F+12) .expression (Zs i t 2 1 ne ar)= .ok (callN t o c) (Zs c.till u 1 1 ne t.from'):=expression_z (f:=F+11) (assign_call F h hso ho hsc hc hsu hcl h0 h9) hcl.com
 have hne: ∀x,oneOf x kwW=true→¬t.text=x:=fun x hx=>oneOf_ne hkw hx
 have hsc:semicolonP s (Zs c.till u 1 1 ne t.from')= .ok () (Zs u.till u 0 1 ne t.from'):=by
  unfold semicolonP
  rw [PM.go (peek_old (by decide)),if_pos hu.yes,PM.go take_z]
  rfl
 show statementQ s m (runQ s m (F+13)) t true _=_
 unfold statementQ
 rw [if_neg (by rintro(h|h);cases h;exact h hk),if_neg (hne _ (by decide)),if_neg (hne _ (by decide)),if_neg (hne _ (by decide)),if_neg (hne _ (by decide)),if_neg (hne _ (by decide)),if_neg (hne _ (by decide)),if_neg (hne _ (by decide))]
 unfold statementS
 rw [if_neg (by decide),if_neg (by rw [punctT_kind (by omega)];decide),if_neg (by rw [punctT_kind (by omega)];decide),if_neg (fun h=>h hk),if_neg (by rw [hkw];decide),PM.go (look_z hso _),PM.go (get_z _),if_neg (by rw [ho.no (by decide)];simp)]
 show simpleS s (runQ s m (F+12)) t _=_
 unfold simpleS
 rw [PM.go he,PM.go hsc]
 rfl
theorem head_z (F:Nat) (hso:Sees s 1 i o) (ho:Opn 40 o) (ha:Nm v) (hsa:Sees s 2 o.till v) (hsc:Sees s 1 v.till c) (hc:Opn 41 c) (h0:0≤ne) (h9:ne<4000):
  runQ s m (F+12) .head (Zs i tk 0 1 ne ar)= .ok (leafN 1 v) (Zs c.till c 0 1 ne v.from'):=by
 have hcl:=par_cls hc
 show headS s (runQ s m (F+11)) _=_
 unfold headS
 have hx:runQ s m (F+10) .expression (Zs o.till o 0 1 ne ar)= .ok (leafN 1 v) (Zs v.till c 1 1 ne v.from'):=
  expression_z (assign_nm F ha (.inr rfl) (peek_new hsa) hsc hcl.stp hcl.q hcl.asg hcl.arr h0 h9) hcl.com
 have hi:runQ s m (F+11) .inner (Zs o.till o 0 1 ne ar)= .ok (leafN 1 v) (Zs v.till c 1 1 ne v.from'):=by
  show innerS (runQ s m (F+10)) _=_
  unfold innerS
  exact with_z hx
 rw [PM.go (want_yes (peek_new hso) ho.yes),PM.go hi,PM.go (want_yes (peek_old (by decide)) hc.yes)]
 rfl
theorem base_num (h3:t.kind=3):runQ s m (f+2) (.base t true) (Zs i t 2 1 ne ar)= .ok (leafN 3 t) (Zs t.till t 0 1 ne ar):=by
 have h1:t.kind≠1:=by omega
 show baseS s m (runQ s m (f+1)) t true _=_
 unfold baseS
 rw [if_neg (by rw [nameT_kind h1];decide),if_neg (by rw [nameT_kind h1];decide),if_neg (by rw [nameT_kind h1];decide)]
 show primaryS (runQ s m f) t _=_
 unfold primaryS
 rw [if_pos (.inl h3),PM.go take_z,h3]
 rfl
theorem num_22 (t:Tk): ¬(leafN 3 t).kind=22:=by show¬(3:Int)=22;decide
theorem left_num (h3:t.kind=3) (hsu:Sees s 1 t.till u) (hu:Endy u):runQ s m (f+3) .leftHand (Zs i t 2 1 ne ar)= .ok (leafN 3 t) (Zs t.till u 1 1 ne ar):=by
 show leftHandS s (f+2) (runQ s m (f+2)) _=_
 unfold leftHandS
 rw [PM.go (peek_old (by decide)),PM.go (get_z _)]
 show(runQ s m (f+2) (.base t true)>>=_) _=_
 rw [PM.go (base_num h3),if_neg (num_22 t),if_neg (by rw [show decide ((leafN 3 t).kind=1)=false from rfl];simp)]
 unfold leftHandS.linkL
 rw [PM.go (peek_new hsu),if_neg (by rw [hu.opt];decide),PM.go (link_no (f+1) (leafN 3 t) true true hu (peek_old (by decide))),if_neg (show¬((false:Bool)=true) by decide)]
 rfl
theorem inner_num (F:Nat) (h3:t.kind=3) (hst:Sees s 2 i t) (hsu:Sees s 1 t.till u) (hu:Opn 58 u) (h0:0≤ne) (h9:ne<4000):
  runQ s m (F+10) .inner (Zs i tk 0 1 ne ar)= .ok (leafN 3 t) (Zs t.till u 1 1 ne t.from'):=by
 have hc:=colon_cls hu
 have ha:runQ s m (F+8) .assign (Zs i tk 0 1 ne ar)= .ok (leafN 3 t) (Zs t.till u 1 1 ne t.from'):=by
  refine climbU (f:=F+3) (by omega) (nameT_kind (by omega)) (nameT_kind (by omega)) (peek_new hst) (peek_old (by decide)) ?_ (num_22 t) hc hsu (hu.no (by decide)) h0 h9
  exact unary_of_left (by omega) (by omega) (left_num h3 hsu hc.stp.e) (num_22 t) hc.stp.e
 have hx:runQ s m (F+9) .expression (Zs i tk 0 1 ne ar)= .ok (leafN 3 t) (Zs t.till u 1 1 ne t.from'):=expression_z (f:=F+8) ha hc.com
 show innerS (runQ s m (F+9)) _=_
 unfold innerS
 exact with_z hx
def swF:Nat→List UInt8
 |0=> []
 |k+1=> [32,102,40,41,59]++swF k
def swB:Option (List UInt8) × Nat→List UInt8
 |(none,k)=> [32,100,101,102,97,117,108,116,58]++swF k
 |(some d,k)=> [32,99,97,115,101,32]++(d++58::swF k)
def swT:List (Option (List UInt8) × Nat)→List UInt8
 | []=> []
 |c::cs=>swB c++swT cs
theorem calls_ok (F:Nat) {tail:List UInt8} {Q:Nat→Tk→Prop} (hE: ∀p:Nat,s.data.toList.drop p=tail→p≤s.size→∃t,Sees s 2 p t∧endB 2 t=true∧Q p t) (h0:0≤ne) (h9:ne<3998):
  ∀(k:Nat) (p:Nat) (tk:Tk) (ar:Int) (kids:List Nd) (g:Nat),s.data.toList.drop p=swF k++tail→p≤s.size→k<g→
   ∃l q t ar2,dirL s (runQ s m (F+24)) false 2 g false kids (Zs (p:Nat) tk 0 1 ne ar)= .ok (kids++l) (Zs ((q:Nat):Int) t 2 1 ne ar2)∧Q q t∧l.length=k∧noProps l=true∧ndSizes l≤5*k
 |0,p,tk,ar,kids,g,hd,hp,hg=>by
  obtain⟨t,h1,h2,h3⟩:=hE p hd hp
  obtain⟨g,rfl⟩: ∃g',g=g'+1:=⟨g - 1,by omega⟩
  refine⟨[],p,t,ar,?_,h3,rfl,rfl,Nat.le_refl _⟩
  unfold dirL
  rw [PM.go (peek_new h1),if_pos h2,List.append_nil]
  rfl
 |k+1,p,tk,ar,kids,g,hd,hp,hg=>by
  obtain⟨g,rfl⟩: ∃g',g=g'+1:=⟨g - 1,by omega⟩
  obtain⟨p1,t,ht⟩:=tat_low (s:=s) (p:=p) (gap:= [32]) (c:=102) (a:= []) (l:=40::41::59::(swF k++tail)) gap1 (by decide) (by simp) (goes_c _ (by decide) (by kernel_rfl)) (by rw [hd];rfl) hp
  obtain⟨p2,o,ho⟩:=tat_mark (c:=40) (by simp) gap0 (l:=41::59::(swF k++tail)) ht.rest ht.le
  obtain⟨p3,c,hc⟩:=tat_mark (c:=41) (by simp) gap0 (l:=59::(swF k++tail)) ho.rest ho.le
  obtain⟨p4,u,hu⟩:=tat_mark (c:=59) (by simp) gap0 (l:=swF k++tail) hc.rest hc.le
  have hnm:Nm t:=⟨ht.kind,by rw [ht.text];decide,by rw [ht.text];decide,by rw [ht.text];decide,by unfold slashT;rw [ht.text];exact pre_no (by decide)⟩
  have hst:=stmt_call (s:=s) (m:=m) (i:=(p:Int)) (ne:=ne+1) (ar:=ar) (F+10) hnm (by rw [ht.text];decide) (ho.seen (.inl rfl) ht.till) ho.opn (hc.seen (.inr rfl) ho.till) hc.opn (hu.seen (.inl rfl) hc.till) hu.opn (by omega) (by omega)
  obtain⟨l,q,t2,ar3,r1,r2,r3,r4,r5⟩:=calls_ok F hE h0 h9 k p4 u t.from' (kids++ [.mk 57 ⟨#[]⟩ [callN t o c] t.from' u.till]) g hu.rest hu.le (by omega)
  refine⟨.mk 57 ⟨#[]⟩ [callN t o c] t.from' u.till::l,q,t2,ar3,?_,r2,by rw [List.length_cons,r3],?_,?_⟩
  ·refine dir_step (f:=F+23) (ht.sees 2 (.inr rfl)) ?_ hst h0 (by omega) ?_
   ·unfold endB
    rw [if_neg (by decide),if_neg (by decide),punctT_kind (by rw [ht.kind];decide),nameT_ne (by rw [ht.text];decide),nameT_ne (by rw [ht.text];decide)]
    rfl
   ·rw [if_neg (show¬((false && decide ((Nd.mk 57 ⟨#[]⟩ [callN t o c] t.from' u.till).kind=57))=true) from fun h=>by cases h),hu.till]
    rw [hu.till] at r1
    refine r1.trans ?_
    rw [List.append_assoc]
    rfl
  ·show(noProp (.mk 57 ⟨#[]⟩ [callN t o c] t.from' u.till) && noProps l)=true
   rw [r4]
   rfl
  ·show ndSize (.mk 57 ⟨#[]⟩ [callN t o c] t.from' u.till)+ndSizes l≤_
   rw [show ndSize (.mk 57 ⟨#[]⟩ [callN t o c] t.from' u.till)=4 from rfl]
   omega
def SwAt (s:ByteArray) (fin:List UInt8) (p:Nat) (t:Tk):List (Option (List UInt8) × Nat)→Prop
 | []=> ∃p',Tat s p 5 ⟨#[125]⟩ fin p' t
 |(none,k)::r=> ∃p',Tat s p 1 ⟨#[100,101,102,97,117,108,116]⟩ (58::(swF k++(swT r++32::125::fin))) p' t
 |(some d,k)::r=> ∃p',Tat s p 1 ⟨#[99,97,115,101]⟩ (32::(d++58::(swF k++(swT r++32::125::fin)))) p' t
def SwOk:Bool→List (Option (List UInt8) × Nat)→Prop
 |_,[]=>True
 |b,(none,_)::r=>b=false∧SwOk true r
 |b,(some d,_)::r=>NumD d∧SwOk b r
theorem sw_at {fin:List UInt8} (cs:List (Option (List UInt8) × Nat)) (p:Nat) (hd:s.data.toList.drop p=swT cs++32::125::fin) (hp:p≤s.size): ∃t,Sees s 2 p t∧endB 2 t=true∧SwAt s fin p t cs:=by
 match cs with
 | []=>
  obtain⟨p',t,h⟩:=tat_any (s:=s) (gap:= [32]) (a:= [125]) (l:=fin) (kind:=5) (p:=p) gap1 hd hp (ink0_of (by decide) (by decide) (by decide) (by decide)) (fun _ _=>plain_markg (by decide) (by decide) ((pct_no (by decide)).trans rfl) (show(1:Nat)≠0 by decide))
  refine⟨t,h.sees 2 (.inr rfl),?_,p',h⟩
  unfold endB
  rw [if_neg (by decide),if_neg (by decide),show punctT t ⟨#[125]⟩=true from h.opn.yes]
  rfl
 |(none,k)::r=>
  obtain⟨p',t,h⟩:=tat_low (s:=s) (p:=p) (gap:= [32]) (c:=100) (a:= [101,102,97,117,108,116]) (l:=58::(swF k++(swT r++32::125::fin))) gap1 (by decide) (by decide) (goes_c _ (by decide) (by kernel_rfl)) (by rw [hd];show(([32,100,101,102,97,117,108,116,58]++swF k)++swT r)++_=_;simp) hp
  refine⟨t,h.sees 2 (.inr rfl),?_,p',h⟩
  unfold endB
  rw [if_neg (by decide),if_neg (by decide),show nameT t ⟨#[100,101,102,97,117,108,116]⟩=true by unfold nameT;rw [h.kind,h.text];decide,Bool.or_true]
 |(some d,k)::r=>
  obtain⟨p',t,h⟩:=tat_low (s:=s) (p:=p) (gap:= [32]) (c:=99) (a:= [97,115,101]) (l:=32::(d++58::(swF k++(swT r++32::125::fin)))) gap1 (by decide) (by decide) (goes_c _ (by decide) (by kernel_rfl)) (by rw [hd];show(([32,99,97,115,101,32]++(d++58::swF k))++swT r)++_=_;simp) hp
  refine⟨t,h.sees 2 (.inr rfl),?_,p',h⟩
  unfold endB
  rw [if_neg (by decide),if_neg (by decide),show nameT t ⟨#[99,97,115,101]⟩=true by unfold nameT;rw [h.kind,h.text];decide,Bool.or_true]
  rfl
def SwN (c:Option (List UInt8) × Nat) (n:Nd):Prop:= ∃(a b:ByteArray) (x:Nd) (ls:List Nd) (f g h i:Int),n= .mk 75 a [x,.mk 58 b ls f g] h i∧ls.length=c.2
inductive SwNs:List (Option (List UInt8) × Nat)→List Nd→Prop
 |nil:SwNs [] []
 |cons {c:Option (List UInt8) × Nat} {n:Nd} {cs:List (Option (List UInt8) × Nat)} {l:List Nd} (h:SwN c n) (t:SwNs cs l):SwNs (c::cs) (n::l)
def swSum:List (Option (List UInt8) × Nat)→Nat
 | []=>0
 |c::cs=>c.2+swSum cs
theorem sw_loop (F:Nat) {fin:List UInt8} (from' op:Int) (of:Nd) (h0:0≤ne) (h9:ne<3990):
  ∀(cs:List (Option (List UInt8) × Nat)) (pl:Bool) (kids:List Nd) (g p:Nat) (c:Tk) (ar:Int) (st:Ps),peekP s 2 st= .ok c (Zs ((p:Nat):Int) c 2 1 ne ar)→SwAt s fin p c cs→SwOk pl cs→cs.length<g→(∀x ∈ cs,x.2<F+24)→F≤4000000→
   ∃l u p' ar2,casesL s (runQ s m (F+25)) from' of op g pl kids st= .ok (.mk 73 ⟨#[]⟩ [of,.mk 74 ⟨#[]⟩ (kids++l) op ((p':Nat):Int)] from' ((p':Nat):Int)) (Zs ((p':Nat):Int) u 0 1 ne ar2)∧s.data.toList.drop p'=fin∧p'≤s.size∧SwNs cs l∧noProps l=true∧ndSizes l≤3*cs.length+5*swSum cs
 | [],pl,kids,g,p,c,ar,st,hpk,hat,_,hg,_,_=>by
  obtain⟨g,rfl⟩: ∃g',g=g'+1:=⟨g - 1,by simp at hg;omega⟩
  obtain⟨p',h⟩:=hat
  refine⟨[],c,p',ar,?_,h.rest,h.le,.nil,rfl,Nat.zero_le _⟩
  unfold casesL
  rw [PM.go hpk,PM.go (is_yes (peek_12 (by decide) (by decide) (by decide) (h.opn.slash (by decide))) h.opn.yes),if_pos rfl,List.append_nil,h.till]
  rfl
 |(o,k)::cs,pl,kids,g,p,c,ar,st,hpk,hat,hok,hg,hks,hF=>by
  rw [List.length_cons] at hg
  obtain⟨g,rfl⟩: ∃g',g=g'+1:=⟨g - 1,by omega⟩
  have hk:k<F+24:=hks (o,k) (.head _)
  have key: ∀(x:Nd) (pl2:Bool) (v:Tk) (p3:Nat) (arx:Int),noProp x=true→ndSize x=1→SwOk pl2 cs→s.data.toList.drop p3=swF k++(swT cs++32::125::fin)→p3≤s.size→v.till=((p3:Nat):Int)→
    ∃l u p' ar2,(do
     let list←runQ s m (F+25) (.statements false false 2)
     if 4194304<list.length then outP else do
      let k←nodeP 75 ⟨#[]⟩ c.from' [x,caseN list v.till]
      casesL s (runQ s m (F+25)) from' of op g pl2 (kids++ [k]):PM Nd) (Zs ((p3:Nat):Int) v 0 1 ne arx)= .ok (.mk 73 ⟨#[]⟩ [of,.mk 74 ⟨#[]⟩ (kids++l) op ((p':Nat):Int)] from' ((p':Nat):Int)) (Zs ((p':Nat):Int) u 0 1 ne ar2)∧s.data.toList.drop p'=fin∧p'≤s.size∧SwNs ((o,k)::cs) l∧noProps l=true∧ndSizes l≤3*(cs.length+1)+5*(k+swSum cs):=by
   intro x pl2 v p3 arx hx1 hx2 hok2 hd hp hv
   obtain⟨l1,q,t,ar2,r1,⟨r2,r2'⟩,r3,r4,r5⟩:=calls_ok (s:=s) (m:=m) (ne:=ne) F (Q:=fun p t=>Sees s 2 p t∧SwAt s fin p t cs) (fun p h1 h2=>by obtain⟨t,a1,a2,a3⟩:=sw_at cs p h1 h2;exact⟨t,a1,a2,a1,a3⟩) h0 (by omega) k p3 v arx [] (F+24) hd hp hk
   have hst:runQ s m (F+25) (.statements false false 2) (Zs ((p3:Nat):Int) v 0 1 ne arx)= .ok l1 (Zs ((q:Nat):Int) t 2 1 ne ar2):=r1
   rw [PM.go hst,if_neg (by omega)]
   obtain⟨n1,hn1⟩: ∃n1,Nd.mk 75 ⟨#[]⟩ [x,caseN l1 v.till] c.from' ((q:Nat):Int)=n1:=⟨_,rfl⟩
   obtain⟨l,u,p',ar3,s1,s3,s4,s5,s6,s7⟩:=sw_loop F from' op of h0 h9 cs pl2 (kids++ [n1]) g q t ar2 (Zs ((q:Nat):Int) t 2 1 ne ar2) (peek_old (by decide)) r2' hok2 (by omega) (fun x hx=>hks x (.tail _ hx)) hF
   have e1:noProp n1=true:=by rw [←hn1];unfold caseN;simp [noProp,noProps,hx1,r4]
   have e2:ndSize n1≤3+5*k:=by rw [←hn1];unfold caseN;simp only [ndSize,ndSizes,hx2];omega
   refine⟨n1::l,u,p',ar3,?_,s3,s4,.cons ⟨_,_,_,_,_,_,_,_,hn1.symm,r3⟩ s5,?_,?_⟩
   ·show(nodeP 75 ⟨#[]⟩ c.from' [x,caseN l1 v.till]>>=fun k=>casesL s (runQ s m (F+25)) from' of op g pl2 (kids++ [k])) _=_
    rw [PM.go (show nodeP 75 ⟨#[]⟩ c.from' [x,caseN l1 v.till] (Zs ((q:Nat):Int) t 2 1 ne ar2)= .ok n1 (Zs ((q:Nat):Int) t 2 1 ne ar2) from by rw [←hn1];rfl),s1,List.append_assoc]
    rfl
   ·show(noProp n1 && noProps l)=true
    rw [s6,e1]
    rfl
   ·show ndSize n1+ndSizes l≤_
    omega
  cases o with
  |none=>
   obtain⟨p1,h⟩:=hat
   obtain⟨hpl,hok2⟩:=hok
   subst hpl
   obtain⟨p2,v,hv⟩:=tat_colon (s:=s) gap0 (l:=swF k++(swT cs++32::125::fin)) h.rest h.le
   obtain⟨l,u,p',ar2,r1,r3,r4,r5,r6,r7⟩:=key .zero true v p2 ar rfl rfl hok2 hv.rest hv.le hv.till
   refine⟨l,u,p',ar2,?_,r3,r4,r5,r6,by rw [List.length_cons];exact r7⟩
   have hsl:slashT c=false:=by unfold slashT;rw [h.text];exact pre_no (by decide)
   have hnd:nameT c ⟨#[100,101,102,97,117,108,116]⟩=true:=by unfold nameT;rw [h.kind,h.text];decide
   unfold casesL
   rw [PM.go hpk,PM.go (is_no (peek_12 (by decide) (by decide) (by decide) hsl) (punctT_kind (by rw [h.kind];decide))),if_neg (by decide),if_neg (by rw [nameT_ne (by rw [h.text];decide)];decide),if_pos (by rw [hnd];rfl),PM.go take_z,h.till,PM.go (want_yes (peek_new (hv.sees 1 (.inl rfl))) hv.opn.yes),hv.till]
   rw [hv.till] at r1
   exact r1
  |some d=>
   obtain⟨p1,h⟩:=hat
   obtain⟨hnd,hok2⟩:=hok
   obtain⟨p2,y,hy⟩:=tat_num (s:=s) (gap:= [32]) gap1 hnd (l:=swF k++(swT cs++32::125::fin)) h.rest h.le
   obtain⟨p3,v,hv⟩:=tat_colon (s:=s) gap0 (l:=swF k++(swT cs++32::125::fin)) hy.rest hy.le
   obtain⟨l,u,p',ar2,r1,r3,r4,r5,r6,r7⟩:=key (leafN 3 y) pl v p3 y.from' rfl rfl hok2 hv.rest hv.le hv.till
   refine⟨l,u,p',ar2,?_,r3,r4,r5,r6,by rw [List.length_cons];exact r7⟩
   have hsl:slashT c=false:=by unfold slashT;rw [h.text];exact pre_no (by decide)
   have hcs:nameT c ⟨#[99,97,115,101]⟩=true:=by unfold nameT;rw [h.kind,h.text];decide
   have hin:=inner_num (s:=s) (m:=m) (ne:=ne) (ar:=ar) (i:=((p1:Nat):Int)) (tk:=c) (F+15) hy.kind (hy.sees 2 (.inr rfl)) (hv.seen (.inl rfl) hy.till) hv.opn h0 (by omega)
   unfold casesL
   rw [PM.go hpk,PM.go (is_no (peek_12 (by decide) (by decide) (by decide) hsl) (punctT_kind (by rw [h.kind];decide))),if_neg (by decide),if_pos hcs,PM.go take_z,h.till,PM.go hin,PM.go (want_yes (peek_old (by decide)) hv.opn.yes),hv.till]
   rw [hv.till] at r1
   exact r1
theorem prog_sw (F:Nat) (hF:F≤3000000) {cs:List (Option (List UInt8) × Nat)} (hok:SwOk false cs) (hl:cs.length≤30) (hk: ∀x ∈ cs,x.2≤30) (hsum:swSum cs≤30) (hd:s.data.toList= [115,119,105,116,99,104,32,40,118,41,32,123]++(swT cs++ [32,125])):
  ∃v l a b c d q,programQ s false (F+40)= .ok (.mk 86 ⟨#[]⟩ [.mk 73 ⟨#[]⟩ [leafN 1 v,.mk 74 ⟨#[]⟩ l a b] c d] 0 s.size) q∧SwNs cs l:=by
 obtain⟨p1,t,ht⟩:=tat_low (s:=s) (p:=0) (gap:= []) (c:=115) (a:= [119,105,116,99,104]) (l:=32::40::118::41::32::123::(swT cs++ [32,125])) gap0 (by decide) (by decide) (goes_c _ (by decide) (by kernel_rfl)) (by rw [List.drop_zero,hd];rfl) (Nat.zero_le _)
 obtain⟨p2,o,ho⟩:=tat_mark (c:=40) (by simp) gap1 (l:=118::41::32::123::(swT cs++ [32,125])) ht.rest ht.le
 obtain⟨p3,v,hv⟩:=tat_low (s:=s) (p:=p2) (gap:= []) (c:=118) (a:= []) (l:=41::32::123::(swT cs++ [32,125])) gap0 (by decide) (by simp) (goes_c _ (by decide) (by kernel_rfl)) ho.rest ho.le
 obtain⟨p4,c,hc⟩:=tat_mark (c:=41) (by simp) gap0 (l:=32::123::(swT cs++ [32,125])) hv.rest hv.le
 obtain⟨p5,w,hw⟩:=tat_open gap1 (l:=swT cs++ [32,125]) hc.rest hc.le
 obtain⟨y,hy1,_,hy3⟩:=sw_at (fin:= []) cs p5 hw.rest hw.le
 have hnm:Nm v:=⟨hv.kind,by rw [hv.text];decide,by rw [hv.text];decide,by rw [hv.text];decide,by unfold slashT;rw [hv.text];exact pre_no (by decide)⟩
 have hh:=head_z (s:=s) (m:=false) (i:=t.till) (ne:=1) (ar:= -1) (tk:=t) (F+24) (ho.seen (.inl rfl) ht.till) ho.opn hnm (hv.seen (.inr rfl) ho.till) (hc.seen (.inl rfl) hv.till) hc.opn (by decide) (by decide)
 obtain⟨l,u,p',ar2,r1,r3,r4,r5,r6,r7⟩:=sw_loop (s:=s) (m:=false) (ne:=1) (F+11) (fin:= []) t.from' w.from' (leafN 1 v) (by decide) (by decide) cs false [] (F+36) p5 y v.from' (Zs ((p5:Nat):Int) w 0 1 1 v.from') (peek_new hy1) hy3 hok (by omega) (fun x hx=>by have:=hk x hx;omega) (by omega)
 have hst:runQ s false (F+38) (.statement t true) (Zs 0 t 2 1 1 (-1))= .ok (.mk 73 ⟨#[]⟩ [leafN 1 v,.mk 74 ⟨#[]⟩ l w.from' ((p':Nat):Int)] t.from' ((p':Nat):Int)) (Zs ((p':Nat):Int) u 0 1 1 ar2):=by
  have htx:=ht.text
  have hkd:=ht.kind
  show statementQ s false (runQ s false (F+37)) t true _=_
  unfold statementQ
  rw [if_neg (by rintro(h|h);cases h;exact h hkd),if_neg (by rw [htx];decide),if_neg (by rw [htx];decide),if_neg (by rw [htx];decide),if_neg (by rw [htx];decide),if_neg (by rw [htx];decide),if_neg (by rw [htx];decide),if_pos htx]
  show switchedQ s (F+36) (runQ s false (F+36)) t _=_
  unfold switchedQ
  rw [PM.go take_z,PM.go hh,PM.go (want_yes (peek_new (hw.seen (.inl rfl) hc.till)) hw.opn.yes),hw.till,r1]
  rfl
 have h5:=ht.kind
 obtain⟨q,h⟩:=prog_one (s:=s) (F+36) (ht.sees 2 (.inr rfl)) (by omega) hst (show¬(73:Int)=57 by decide) r3 r4 (by simp [noProp,noProps,leafN,r6]) (by simp only [ndSize,ndSizes,leafN];omega)
 exact⟨v,l,_,_,_,_,q,h,r5⟩
theorem bareNds_len: ∀l:List Nd,(bareNds l).length=l.length
 | []=>by rw [bareNds]
 |n::l=>by rw [bareNds,List.length_cons,List.length_cons,bareNds_len l]
theorem SwNs.bare: ∀ {cs:List (Option (List UInt8) × Nat)} {l:List Nd},SwNs cs l→SwNs cs (bareNds l)
 |_,_,.nil=>by rw [bareNds];exact .nil
 |_,_,.cons (n:=n) (l:=l) h t=>by
  rw [bareNds]
  refine .cons ?_ t.bare
  obtain⟨a,b,x,ls,f,g,h,i,rfl,e⟩:=h
  refine⟨a,b,bareNd x,bareNds ls,0,0,0,0,?_,by rw [bareNds_len,e]⟩
  rw [bareNd,if_neg (by decide),bareNds,bareNds,bareNds,bareNd,if_neg (by decide)]
theorem sw_all (F:Nat) (hF:F≤3000000) {cs:List (Option (List UInt8) × Nat)} (hok:SwOk false cs) (hl:cs.length≤30) (hk: ∀x ∈ cs,x.2≤30) (hsum:swSum cs≤30) (hd:s.data.toList= [115,119,105,116,99,104,32,40,118,41,32,123]++(swT cs++ [32,125])):
  ∃n q,programQ s false (F+40)= .ok n q∧ndSize n≤4194304∧ndDeep n≤8000∧∃(a:ByteArray) (v:Nd) (b:ByteArray) (l:List Nd) (f g h i:Int),(bareNd n).kids= [.mk 73 a [v,.mk 74 b l f g] h i]∧SwNs cs l:=by
 obtain⟨v,l,a,b,c,d,q,h1,h2⟩:=prog_sw F hF hok hl hk hsum hd
 obtain⟨_,z1,z2⟩:=read_size h1
 refine⟨_,q,h1,z1,z2,⟨#[]⟩,bareNd (leafN 1 v),⟨#[]⟩,bareNds l,0,0,0,0,?_,h2.bare⟩
 have e74:bareNd (.mk 74 ⟨#[]⟩ l a b)= .mk 74 ⟨#[]⟩ (bareNds l) 0 0:=by rw [bareNd,if_neg (by decide)]
 have e73:bareNd (.mk 73 ⟨#[]⟩ [leafN 1 v,.mk 74 ⟨#[]⟩ l a b] c d)= .mk 73 ⟨#[]⟩ [bareNd (leafN 1 v),.mk 74 ⟨#[]⟩ (bareNds l) 0 0] 0 0:=by rw [bareNd,if_neg (by decide),bareNds,bareNds,bareNds,e74]
 rw [bareNd,if_neg (by decide)]
 show bareNds _=_
 rw [bareNds,bareNds,e73]
end
end
end Go.Proofs.YtnahajcjpmbflaaGreatDoor
