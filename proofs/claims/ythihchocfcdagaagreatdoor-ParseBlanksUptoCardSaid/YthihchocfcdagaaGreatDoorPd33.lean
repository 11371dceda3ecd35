/- Parts: Plain: two texts with the same tokens, other blanks and comments between them, are read alike (expressions without arrows, steps, async, yield). Condition: the alignment of the two texts. | Plain: two texts with the same tokens are read alike: every function of an expression; Expr's trees are the same. Condition: the alignment of the two texts. | Plain: two texts with the same tokens: Expr reads the same tree of both. Condition: the alignment of the two texts. | Plain: the tokens of ParseBlanks' text, whatever stands between them. Condition: the gaps are those of the law. | ParseBlanks' function answers true. Conditions: the argument's cells hold ints; what a law leans on. -/
import Derived.Test.YthihchocfcdagaaGreatDoorPd31
import Derived.Test.YthihchocfcdagaaGreatDoorPn05
import Derived.Test.YthihchocfcdagaaGreatDoorPd32
namespace Go.Proofs.YthihchocfcdagaaGreatDoor
section
open Go.RowKit
def freeT (t:Tk):Bool:= !punctT t ⟨#[61,62]⟩ && !punctT t ⟨#[43,43]⟩ && !punctT t ⟨#[45,45]⟩ && !decide (t.text=⟨#[97,115,121,110,99]⟩) && !nameT t ⟨#[121,105,101,108,100]⟩ && !decide (t.kind=7) && !decide (t.kind=8) && !punctT t ⟨#[63,46]⟩
structure Al where
 s:ByteArray
 s':ByteArray
 P:Int→Int→Prop
 S:Int→Int→Prop
structure TkR (A:Al) (t t':Tk):Prop where
 kind:t'.kind=t.kind
 text:t'.text=t.text
 from':A.S t.from' t'.from'
 till:A.P t.till t'.till
 free:freeT t=true
structure Al.Ok (A:Al):Prop where
 size:A.s'.size≤1048576
 zero:A.P 0 0
 szero:A.S 0 0
 pos: ∀i i',A.P i i'→0≤i∧i≤A.s.size∧0≤i'∧i'≤A.s'.size
 spos: ∀i i',A.S i i'→0≤i∧0≤i'∧i'≤A.s'.size
 inj: ∀a a' b b',A.S a a'→A.S b b'→(a'=b'↔a=b)
 lex: ∀i i' g,A.P i i'→g=1∨g=2→∃kind q n line cs q' n' line' cs',nxt A.s i.toNat g= .fine kind q n line cs∧nxt A.s' i'.toNat g= .fine kind q' n' line' cs'∧TkR A (tkOf A.s kind q n line) (tkOf A.s' kind q' n' line')∧(cs'.length:Int)+i'≤((q'+n':Nat):Int)
mutual
def NdR (A:Al):Nd→Nd→Prop
 | .mk k t ks _ u,.mk k' t' ks' f' u'=>k'=k∧t'=t∧(k=1→t≠⟨#[97,115,121,110,99]⟩)∧okI f'=true∧A.P u u'∧NdsR A ks ks'
def NdsR (A:Al):List Nd→List Nd→Prop
 | [],ys=>ys= []
 |_::_,[]=>False
 |x::xs,y::ys=>NdR A x y∧NdsR A xs ys
end
theorem ndsR_nil {A:Al} :NdsR A [] []:=by rw [NdsR]
theorem ndsR_nc {A:Al} {y:Nd} {ys:List Nd} (h:NdsR A [] (y::ys)):False:=by rw [NdsR] at h;cases h
theorem ndsR_cn {A:Al} {x:Nd} {xs:List Nd} (h:NdsR A (x::xs) []):False:=by rw [NdsR] at h;exact h
structure PsR (A:Al) (p p':Ps):Prop where
 at':A.P p.at' p'.at'
 goal:p'.goal=p.goal
 tok:TkR A p.tok p'.tok
 flags:p'.flags=p.flags
 nest:p'.nest=p.nest
 arrow:p.arrow= -1∧p'.arrow= -1∨A.S p.arrow p'.arrow
 commas:p.commas= []∧p'.commas= []
 cms:(p'.cms.length:Int)≤p'.at'
 ahead:(p'.cms.length:Int)+p'.ahead.length≤p'.tok.till
def Sim (A:Al) {α β:Type} (V:α→β→Prop) (x:PM α) (y:PM β):Prop:= ∀p p' a q,PsR A p p'→x p= .ok a q→∃b q',y p'= .ok b q'∧V a b∧PsR A q q'
section
variable {A:Al} {α β γ δ:Type}
theorem TkR.punct {t t':Tk} (h:TkR A t t') (x:ByteArray):punctT t' x=punctT t x:=by unfold punctT;rw [h.kind,h.text]
theorem TkR.name {t t':Tk} (h:TkR A t t') (x:ByteArray):nameT t' x=nameT t x:=by unfold nameT;rw [h.kind,h.text]
theorem TkR.ident {t t':Tk} (h:TkR A t t') (m:Bool) (fl:Int):identB m fl t'=identB m fl t:=by unfold identB;rw [h.kind,h.text]
theorem TkR.fr {t t':Tk} (h:TkR A t t'):punctT t ⟨#[61,62]⟩=false∧punctT t ⟨#[43,43]⟩=false∧punctT t ⟨#[45,45]⟩=false∧t.text≠⟨#[97,115,121,110,99]⟩∧nameT t ⟨#[121,105,101,108,100]⟩=false∧t.kind≠7∧t.kind≠8∧punctT t ⟨#[63,46]⟩=false:=by
 have h2:=h.free
 unfold freeT at h2
 simp only [Bool.and_eq_true,Bool.not_eq_true',decide_eq_false_iff_not] at h2
 obtain⟨⟨⟨⟨⟨⟨⟨a,b⟩,c⟩,d⟩,e⟩,f⟩,g⟩,i⟩:=h2
 exact⟨a,b,c,d,e,f,g,i⟩
theorem Sim.bind {V:α→β→Prop} {W:γ→δ→Prop} {x:PM α} {y:PM β} {f:α→PM γ} {g:β→PM δ} (h:Sim A V x y) (k: ∀a b,V a b→Sim A W (f a) (g b)):Sim A W (x>>=f) (y>>=g):=by
 intro p p' c q hp hx
 cases hxp:x p with
 |out=>rw [show (x>>=f) p=PM.bind x f p from rfl] at hx;unfold PM.bind at hx;rw [hxp] at hx;cases hx
 |bad e i=>rw [PM.fell hxp] at hx;cases hx
 |ok a r=>
  rw [PM.go hxp] at hx
  obtain⟨b,r',h1,h2,h3⟩:=h p p' a r hp hxp
  obtain⟨d,q',h4,h5,h6⟩:=k a b h2 r r' c q h3 hx
  exact⟨d,q',by rw [PM.go h1];exact h4,h5,h6⟩
theorem Sim.ret {V:α→β→Prop} {a:α} {b:β} (h:V a b):Sim A V (pure a:PM α) (pure b:PM β):=by
 intro p p' c q hp hx
 obtain⟨rfl,rfl⟩:a=c∧p=q:=by cases hx;exact⟨rfl,rfl⟩
 exact⟨b,p',rfl,h,hp⟩
theorem Sim.out {V:α→β→Prop} (y:PM β):Sim A V (outP:PM α) y:=fun _ _ _ _ _ hx=>by cases hx
theorem Sim.bad {V:α→β→Prop} (c i:Int) (y:PM β):Sim A V (failP c i:PM α) y:=fun _ _ _ _ _ hx=>by cases hx
theorem Sim.odd {V:α→β→Prop} (y:PM β):Sim A V (oddP:PM α) y:=fun _ _ _ _ _ hx=>by cases hx
theorem Sim.ite {V:α→β→Prop} {c c':Prop} [Decidable c] [Decidable c'] {x z:PM α} {y w:PM β} (h:c'↔c) (h1:c→Sim A V x y) (h2: ¬c→Sim A V z w):Sim A V (if c then x else z) (if c' then y else w):=by
 by_cases hc:c
 ·rw [if_pos hc,if_pos (h.2 hc)];exact h1 hc
 ·rw [if_neg hc,if_neg (fun k=>hc (h.1 k))];exact h2 hc
theorem Sim.mono {V W:α→β→Prop} {x:PM α} {y:PM β} (h:Sim A V x y) (k: ∀a b,V a b→W a b):Sim A W x y:=by
 intro p p' a q hp hx
 obtain⟨b,q',h1,h2,h3⟩:=h p p' a q hp hx
 exact⟨b,q',h1,k _ _ h2,h3⟩
theorem Sim.get:Sim A (PsR A) getP getP:=by
 intro p p' a q hp hx
 cases hx
 exact⟨p',p',rfl,hp,hp⟩
theorem Sim.mod {f g:Ps→Ps} (h: ∀p p',PsR A p p'→PsR A (f p) (g p')):Sim A (fun _ _=>True) (modP f) (modP g):=by
 intro p p' a q hp hx
 cases hx
 exact⟨(),g p',rfl,trivial,h _ _ hp⟩
variable (hA:A.Ok)
include hA
theorem Sim.peek {g:Int} (hg:g=1∨g=2):Sim A (TkR A) (peekP A.s g) (peekP A.s' g):=by
 intro p p' a q hp hx
 have hc:cachedB g p'=cachedB g p:=by unfold cachedB;rw [hp.goal,hp.tok.text]
 unfold peekP at hx⊢
 rw [hc]
 by_cases h:cachedB g p=true
 ·rw [if_pos h] at hx⊢
  cases hx
  exact⟨_,_,rfl,hp.tok,hp⟩
 ·rw [if_neg h] at hx⊢
  obtain⟨kind,q0,n,line,cs,q1,n1,line1,cs1,e1,e2,hr,hcs⟩:=hA.lex _ _ g hp.at' hg
  have hb:=hA.pos _ _ hp.at'
  unfold freshP at hx⊢
  rw [if_neg (by omega),e1] at hx
  rw [if_neg (by omega),e2]
  simp only at hx⊢
  cases hx
  have hcm:=hp.cms
  exact⟨_,_,rfl,hr,⟨hp.at',rfl,hr,hp.flags,hp.nest,hp.arrow,hp.commas,hcm,by show(p'.cms.length:Int)+cs1.length≤((q1+n1:Nat):Int);omega⟩⟩
theorem Sim.take:Sim A (TkR A) takeP takeP:=by
 intro p p' a q hp hx
 have h1:=hA.size
 have h2:=hA.pos _ _ hp.tok.till
 have h3:=hp.ahead
 unfold takeP at hx⊢
 by_cases h:4194304<p.cms.length+p.ahead.length
 ·rw [if_pos h] at hx;cases hx
 ·rw [if_neg h] at hx
  rw [if_neg (by omega)]
  cases hx
  refine⟨_,_,rfl,hp.tok,hp.tok.till,rfl,hp.tok,hp.flags,hp.nest,hp.arrow,hp.commas,?_,?_⟩
  ·show((p'.cms++p'.ahead).length:Int)≤p'.tok.till
   rw [List.length_append];omega
  ·show((p'.cms++p'.ahead).length:Int)+(([]:List Cm).length:Nat)≤p'.tok.till
   rw [List.length_append,List.length_nil];omega
theorem Sim.look {i i':Int} (h:A.P i i'):Sim A (TkR A) (lookP A.s i) (lookP A.s' i'):=by
 intro p p' a q hp hx
 have hb:=hA.pos _ _ h
 obtain⟨kind,q0,n,line,cs,q1,n1,line1,cs1,e1,e2,hr,_⟩:=hA.lex _ _ 1 h (.inl rfl)
 have l1:lookT A.s i=tkOf A.s kind q0 n line:=by unfold lookT;rw [e1]
 have l2:lookT A.s' i'=tkOf A.s' kind q1 n1 line1:=by unfold lookT;rw [e2]
 unfold lookP at hx⊢
 rw [if_neg (by omega),l1] at hx
 rw [if_neg (by omega),l2]
 cases hx
 exact⟨_,_,rfl,hr,hp⟩
theorem Sim.is (x:ByteArray):Sim A (fun a b=>b=a) (isP A.s x) (isP A.s' x):=
 Sim.bind (Sim.peek hA (.inl rfl)) fun t t' h=>Sim.ite (by rw [h.punct]) (fun _=>Sim.bind (Sim.take hA) fun _ _ _=>Sim.ret rfl) fun _=>Sim.ret rfl
theorem Sim.want (x:ByteArray):Sim A (TkR A) (wantP A.s x) (wantP A.s' x):=
 Sim.bind (Sim.peek hA (.inl rfl)) fun t t' h=>Sim.ite (by rw [h.punct]) (fun _=>Sim.take hA) fun _=>Sim.odd _
theorem Sim.word (x:ByteArray):Sim A (fun a b=>b=a) (wordP A.s x) (wordP A.s' x):=
 Sim.bind (Sim.peek hA (.inl rfl)) fun t t' h=>Sim.ite (by rw [h.name]) (fun _=>Sim.bind (Sim.take hA) fun _ _ _=>Sim.ret rfl) fun _=>Sim.ret rfl
theorem Sim.must (x:ByteArray):Sim A (fun _ _=>True) (mustP A.s x) (mustP A.s' x):=
 Sim.bind (Sim.word hA x) fun b b' h=>by
  subst h
  exact Sim.ite Iff.rfl (fun _=>Sim.ret trivial) fun _=>Sim.odd _
theorem okS {i i':Int} (h:A.S i i'):okI i'=true:=by
 have h1:=hA.size
 have h2:=hA.spos _ _ h
 unfold okI
 rw [decide_eq_true (by omega),decide_eq_true (by omega)]
 rfl
theorem leafR (k:Int) {t t':Tk} (h:TkR A t t'):NdR A (leafN k t) (leafN k t'):=by
 unfold leafN
 rw [NdR]
 exact⟨rfl,h.text,fun _=>h.fr.2.2.2.1,okS hA h.from',h.till,ndsR_nil⟩
theorem zeroR:NdR A .zero .zero:=by
 unfold Nd.zero
 rw [NdR]
 exact⟨rfl,rfl,fun h=>absurd h (by decide),rfl,hA.zero,ndsR_nil⟩
theorem Sim.takeIdent (m:Bool):Sim A (NdR A) (takeIdentP A.s m) (takeIdentP A.s' m):=
 Sim.bind (Sim.peek hA (.inl rfl)) fun t t' h=>Sim.bind Sim.get fun p p' hp=>Sim.ite (by rw [h.ident,hp.flags]) (fun _=>Sim.bind (Sim.take hA) fun u u' hu=>Sim.ret (leafR hA 1 hu)) fun _=>Sim.odd _
omit hA in
theorem Sim.node {k:Int} {t t':ByteArray} (ht:t'=t) (h1:k=1→t≠⟨#[97,115,121,110,99]⟩) (f:Int) {f':Int} (hf:okI f'=true) {ks ks':List Nd} (hk:NdsR A ks ks'):Sim A (NdR A) (nodeP k t f ks) (nodeP k t' f' ks'):=by
 intro p p' a q hp hx
 cases hx
 exact⟨_,p',rfl,by rw [NdR];exact⟨rfl,ht,h1,hf,hp.at',hk⟩,hp⟩
omit hA in
theorem Sim.with {V:α→β→Prop} (on off:Int) {x:PM α} {y:PM β} (h:Sim A V x y):Sim A V (withP on off x) (withP on off y):=by
 intro p p' a q hp hx
 unfold withP PM.bind at hx⊢
 cases e:x { p with flags:=setF p.flags on off } with
 |out=>rw [e] at hx;cases hx
 |bad c i=>rw [e] at hx;cases hx
 |ok b r=>
  rw [e] at hx
  cases hx
  obtain⟨c,r',e1,e2,e3⟩:=h { p with flags:=setF p.flags on off } { p' with flags:=setF p'.flags on off } _ _ ⟨hp.at',hp.goal,hp.tok,by show setF p'.flags on off=setF p.flags on off;rw [hp.flags],hp.nest,hp.arrow,hp.commas,hp.cms,hp.ahead⟩ e
  rw [e1]
  exact⟨_,_,rfl,e2,e3.at',e3.goal,e3.tok,hp.flags,e3.nest,e3.arrow,e3.commas,e3.cms,e3.ahead⟩
omit hA in
theorem Sim.deeper {V:α→β→Prop} (i i':Int) {x:PM α} {y:PM β} (h:Sim A V x y):Sim A V (deeperP i x) (deeperP i' y):=by
 intro p p' a q hp hx
 have hn:=hp.nest
 unfold deeperP at hx⊢
 by_cases h4:4000≤p.nest
 ·rw [if_pos h4] at hx;cases hx
 ·rw [if_neg h4] at hx
  rw [if_neg (by omega)]
  unfold PM.bind at hx⊢
  cases e:x { p with nest:=p.nest+1 } with
  |out=>rw [e] at hx;cases hx
  |bad c i=>rw [e] at hx;cases hx
  |ok b r=>
   rw [e] at hx
   simp only at hx
   obtain⟨c,r',e1,e2,e3⟩:=h { p with nest:=p.nest+1 } { p' with nest:=p'.nest+1 } _ _ ⟨hp.at',hp.goal,hp.tok,hp.flags,by show p'.nest+1=p.nest+1;omega,hp.arrow,hp.commas,hp.cms,hp.ahead⟩ e
   have hn2:=e3.nest
   rw [e1]
   simp only
   by_cases h0:r.nest≤0
   ·rw [if_pos h0] at hx;cases hx
   ·rw [if_neg h0] at hx
    rw [if_neg (by omega)]
    cases hx
    exact⟨_,_,rfl,e2,e3.at',e3.goal,e3.tok,e3.flags,by show r'.nest - 1=r.nest - 1;omega,e3.arrow,e3.commas,e3.cms,e3.ahead⟩
theorem Sim.list {V:α→β→Prop} (closing:ByteArray) {g:Int} (hg:g=1∨g=2) {one:α→PM α} {one':β→PM β} (h: ∀a b,V a b→Sim A V (one a) (one' b)): ∀(f:Nat) (a:α) (b:β) (c:Bool),V a b→Sim A (fun x y=>V x.1 y.1∧y.2=x.2) (listP A.s closing g one f a c) (listP A.s' closing g one' f b c)
 |0,_,_,_,_=>Sim.out _
 |f+1,a,b,c,hab=>Sim.bind (Sim.peek hA hg) fun t t' ht=>Sim.ite (by rw [ht.punct]) (fun _=>Sim.bind (Sim.take hA) fun _ _ _=>Sim.ret ⟨hab,rfl⟩) fun _=>
  Sim.bind (h a b hab) fun x y hxy=>Sim.bind (Sim.peek hA (.inl rfl)) fun u u' hu=>Sim.ite (by rw [hu.punct]) (fun _=>Sim.bind (Sim.take hA) fun _ _ _=>Sim.ret ⟨hxy,rfl⟩) fun _=>
   Sim.bind (Sim.want hA _) fun _ _ _=>Sim.list closing hg h f x y true hxy
end
section
variable {A:Al}
mutual
theorem ndR_size: ∀n n':Nd,NdR A n n'→ndSize n'=ndSize n
 | .mk k t ks f u,.mk k' t' ks' f' u',h=>by
  rw [NdR] at h
  rw [ndSize,ndSize,ndsR_size ks ks' h.2.2.2.2.2]
theorem ndsR_size: ∀ks ks':List Nd,NdsR A ks ks'→ndSizes ks'=ndSizes ks
 | [],[],_=>rfl
 | [],_::_,h=>(ndsR_nc h).elim
 |_::_,[],h=>(ndsR_cn h).elim
 |x::xs,y::ys,h=>by
  rw [NdsR] at h
  rw [ndSizes,ndSizes,ndR_size x y h.1,ndsR_size xs ys h.2]
end
theorem ndsR_len: ∀ks ks':List Nd,NdsR A ks ks'→ks'.length=ks.length
 | [],[],_=>rfl
 | [],_::_,h=>(ndsR_nc h).elim
 |_::_,[],h=>(ndsR_cn h).elim
 |x::xs,y::ys,h=>by
  rw [NdsR] at h
  rw [List.length_cons,List.length_cons,ndsR_len xs ys h.2]
theorem ndsR_app: ∀ {ks ks' ls ls':List Nd},NdsR A ks ks'→NdsR A ls ls'→NdsR A (ks++ls) (ks'++ls')
 | [],[],_,_,_,h=>h
 | [],_::_,_,_,h,_=>(ndsR_nc h).elim
 |_::_,[],_,_,h,_=>(ndsR_cn h).elim
 |x::xs,y::ys,_,_,h,k=>by
  rw [NdsR] at h
  rw [List.cons_append,List.cons_append,NdsR]
  exact⟨h.1,ndsR_app h.2 k⟩
theorem ndsR_one {n n':Nd} (h:NdR A n n'):NdsR A [n] [n']:=by rw [NdsR];exact⟨h,ndsR_nil⟩
theorem ndsR_two {n n' m m':Nd} (h:NdR A n n') (k:NdR A m m'):NdsR A [n,m] [n',m']:=by rw [NdsR];exact⟨h,ndsR_one k⟩
theorem ndsR_three {n n' m m' o o':Nd} (h:NdR A n n') (k:NdR A m m') (l:NdR A o o'):NdsR A [n,m,o] [n',m',o']:=by rw [NdsR];exact⟨h,ndsR_two k l⟩
theorem NdR.kind {n n':Nd} (h:NdR A n n'):n'.kind=n.kind:=by cases n;cases n';rw [NdR] at h;exact h.1
theorem NdR.text {n n':Nd} (h:NdR A n n'):n'.text=n.text:=by cases n;cases n';rw [NdR] at h;exact h.2.1
theorem NdR.asy {n n':Nd} (h:NdR A n n'):n.kind=1→n.text≠⟨#[97,115,121,110,99]⟩:=by cases n;cases n';rw [NdR] at h;exact h.2.2.1
theorem NdR.ok {n n':Nd} (h:NdR A n n'):okI n'.from'=true:=by cases n;cases n';rw [NdR] at h;exact h.2.2.2.1
theorem NdR.till {n n':Nd} (h:NdR A n n'):A.P n.till n'.till:=by cases n;cases n';rw [NdR] at h;exact h.2.2.2.2.1
theorem NdR.kids {n n':Nd} (h:NdR A n n'):NdsR A n.kids n'.kids:=by cases n;cases n';rw [NdR] at h;exact h.2.2.2.2.2
theorem NdR.plain {n n':Nd} (h:NdR A n n'):plainN n'=plainN n:=by unfold plainN;rw [h.kind,h.text]
theorem NdR.logical {n n':Nd} (h:NdR A n n'):logicalN n'=logicalN n:=by unfold logicalN;rw [h.kind,h.text]
theorem ndsR_head {ks ks':List Nd} (h:NdsR A ks ks') (hA:A.Ok):NdR A (ks.headD .zero) (ks'.headD .zero):=by
 match ks,ks',h with
 | [],[],_=>exact zeroR hA
 | [],_::_,h=>exact(ndsR_nc h).elim
 |_::_,[],h=>exact(ndsR_cn h).elim
 |_::_,_::_,h=>rw [NdsR] at h;exact h.1
theorem NdR.target (hA:A.Ok) {n n':Nd} (h:NdR A n n'):targetB n'=targetB n:=by
 unfold targetB
 rw [ndR_size _ _ h]
 generalize ndSize n=f
 induction f generalizing n n' with
 |zero=>rfl
 |succ f ih=>
  unfold targetF
  rw [h.kind,ndsR_len _ _ h.kids,ih (ndsR_head h.kids hA),h.plain]
theorem ndsR_drop {ks ks':List Nd} (h:NdsR A ks ks') (hA:A.Ok):NdR A ((ks.drop 1).headD .zero) ((ks'.drop 1).headD .zero):=by
 match ks,ks',h with
 | [],[],_=>exact zeroR hA
 | [],_::_,h=>exact(ndsR_nc h).elim
 |_::_,[],h=>exact(ndsR_cn h).elim
 |_::_,_::_,h=>rw [NdsR] at h;exact ndsR_head h.2 hA
theorem NdR.bare (hA:A.Ok) {n n':Nd} (h:NdR A n n'):bareNew n'=bareNew n:=by unfold bareNew;rw [h.kind,(ndsR_drop h.kids hA).kind]
end
section
variable {A:Al} (hA:A.Ok)
include hA
theorem Sim.target {n n':Nd} (h:NdR A n n'):Sim A (fun _ _=>True) (targetP n) (targetP n'):=
 Sim.ite (by rw [h.target hA]) (fun _=>Sim.ret trivial) fun _=>Sim.bad _ _ _
theorem Sim.pattern {n n':Nd} (h:NdR A n n'):Sim A (NdR A) (patternP n) (patternP n'):=
 Sim.bind Sim.get fun p p' hp=>Sim.ite (by rw [hp.commas.1,hp.commas.2,h.kind]) (fun _=>Sim.out _) fun _=>Sim.ite (by rw [h.target hA,ndR_size _ _ h]) (fun _=>Sim.ret h) fun _=>Sim.out _
theorem Sim.operator:Sim A (fun a b=>TkR A a.1 b.1∧b.2=a.2) (operatorP A.s) (operatorP A.s'):=
 Sim.bind (Sim.peek hA (.inl rfl)) fun t t' h=>Sim.bind Sim.get fun p p' hp=>Sim.ite (by rw [h.kind,h.name,h.name,hp.flags]) (fun _=>Sim.ret ⟨h,rfl⟩) fun _=>Sim.ret ⟨h,by rw [h.text]⟩
theorem Sim.property (b:Bool):Sim A (NdR A) (propertyP A.s b) (propertyP A.s' b):=
 Sim.bind (Sim.peek hA (.inl rfl)) fun t t' h=>Sim.ite (by rw [h.kind]) (fun _=>Sim.bind (Sim.take hA) fun u u' hu=>Sim.ret (leafR hA 1 hu)) fun _=>Sim.ite (by rw [h.kind]) (fun _=>Sim.odd _) fun _=>Sim.bind (Sim.take hA) fun u u' hu=>Sim.ret (leafR hA 2 hu)
theorem Sim.comma {n n':Nd} (h:NdR A n n'):Sim A (fun _ _=>True) (commaP A.s n) (commaP A.s' n'):=
 Sim.ite (by rw [h.kind]) (fun _=>Sim.bind (Sim.peek hA (.inl rfl)) fun t t' ht=>Sim.ite (by rw [ht.punct]) (fun _=>Sim.out _) fun _=>Sim.ret trivial) fun _=>Sim.ret trivial
end
end
section
open Go.RowKit
structure EnvS (A:Al) (R R':(x:Fn)→PM x.Out):Prop where
 expression:Sim A (NdR A) (R .expression) (R' .expression)
 inner:Sim A (NdR A) (R .inner) (R' .inner)
 innerAssign:Sim A (NdR A) (R .innerAssign) (R' .innerAssign)
 assign:Sim A (NdR A) (R .assign) (R' .assign)
 cond:Sim A (NdR A) (R .cond) (R' .cond)
 unary:Sim A (NdR A) (R .unary) (R' .unary)
 args:Sim A (NdR A) (R .args) (R' .args)
 spread:Sim A (NdR A) (R .spread) (R' .spread)
 index:Sim A (NdR A) (R .index) (R' .index)
 leftHand:Sim A (NdR A) (R .leftHand) (R' .leftHand)
 array:Sim A (NdR A) (R .array) (R' .array)
 object:Sim A (NdR A) (R .object) (R' .object)
 element1:Sim A (NdR A) (R .element1) (R' .element1)
 funcs:Sim A (NdR A) (R (.funcs false)) (R' (.funcs false))
 cls:Sim A (NdR A) (R (.cls false)) (R' (.cls false))
 assigned: ∀n n',NdR A n n'→Sim A (NdR A) (R (.assigned n)) (R' (.assigned n'))
 binary: ∀l b,Sim A (NdR A) (R (.binary l b)) (R' (.binary l b))
 operand: ∀l,Sim A (NdR A) (R (.operand l)) (R' (.operand l))
 arguments: ∀f f',okI f'=true→Sim A (NdR A) (R (.arguments f)) (R' (.arguments f'))
 link: ∀n n' c t,NdR A n n'→Sim A (fun a b:Nd × Bool=>NdR A a.1 b.1∧b.2=a.2) (R (.link n c t)) (R' (.link n' c t))
 base: ∀t t' c,TkR A t t'→Sim A (NdR A) (R (.base t c)) (R' (.base t' c))
 new: ∀f f',okI f'=true→Sim A (NdR A) (R (.new f)) (R' (.new f'))
 primary: ∀t t',TkR A t t'→Sim A (NdR A) (R (.primary t)) (R' (.primary t'))
 named: ∀t t',TkR A t t'→Sim A (NdR A) (R (.named t)) (R' (.named t'))
 paren: ∀t t',TkR A t t'→Sim A (NdR A) (R (.paren t)) (R' (.paren t'))
section
variable {A:Al} (hA:A.Ok) {R R':(x:Fn)→PM x.Out} (hR:EnvS A R R')
include hA hR
theorem seqS: ∀(g:Nat) (ks ks':List Nd) (f f':Int),NdsR A ks ks'→okI f'=true→Sim A (NdR A) (expressionS.seqL A.s R g ks f) (expressionS.seqL A.s' R' g ks' f')
 |0,_,_,_,_,_,_=>Sim.out _
 |g+1,ks,ks',f,f',hk,hf=>Sim.bind (Sim.is hA _) fun b b' hb=>by
  subst hb
  exact Sim.ite Iff.rfl (fun _=>Sim.bind hR.assign fun k k' hkk=>seqS g _ _ f f' (ndsR_app hk (ndsR_one hkk)) hf) fun _=>Sim.node rfl (fun h=>absurd h (by decide)) _ hf hk
theorem expressionR (f:Nat):Sim A (NdR A) (expressionS A.s f R) (expressionS A.s' f R'):=
 Sim.bind hR.assign fun n n' hn=>Sim.bind (Sim.peek hA (.inl rfl)) fun t t' ht=>Sim.ite (by rw [ht.punct]) (fun _=>seqS hA hR f _ _ _ _ (ndsR_one hn) hn.ok) fun _=>Sim.ret hn
omit hR in
theorem singleR (m:Bool) {t t':Tk} (ht:TkR A t t'):Sim A (fun a b=>a=false∧b=false) (assignS.single A.s m t) (assignS.single A.s' m t'):=by
 unfold assignS.single
 refine Sim.bind Sim.get fun p p' hp=>Sim.bind (V:=TkR A) ?_ fun u u' hu=> ?_
 ·refine Sim.ite (by rw [ht.name]) (fun h=> ?_) fun _=>Sim.ret ht
  rw [nameT_ne ht.fr.2.2.2.1] at h
  cases h
 ·refine Sim.bind (Sim.look hA hu.till) fun v v' hv=>Sim.ite (by rw [hv.punct,hv.fr.1];simp) (fun _=>Sim.ret ⟨rfl,rfl⟩) fun h=> ?_
  rw [hv.fr.1] at h
  simp at h
theorem assignR (m:Bool):Sim A (NdR A) (assignS A.s m R) (assignS A.s' m R'):=by
 unfold assignS
 refine Sim.bind (Sim.peek hA (.inr rfl)) fun t t' ht=>Sim.deeper _ _ (Sim.bind Sim.get fun p p' hp=>Sim.ite (by rw [hp.flags,ht.name]) (fun h=> ?_) fun _=>Sim.bind (singleR hA m ht) fun a b h=> ?_)
 ·rw [ht.fr.2.2.2.2.1] at h
  simp at h
 ·obtain⟨rfl,rfl⟩:=h
  exact Sim.ite Iff.rfl (fun h=>by cases h) fun _=>Sim.bind (Sim.mod fun p p' hp=>⟨hp.at',hp.goal,hp.tok,hp.flags,hp.nest,.inr ht.from',hp.commas,hp.cms,hp.ahead⟩) fun _ _ _=>Sim.bind hR.cond fun n n' hn=>hR.assigned n n' hn
theorem assignedR {n n':Nd} (hn:NdR A n n'):Sim A (NdR A) (assignedS A.s R n) (assignedS A.s' R' n'):=by
 unfold assignedS
 refine Sim.ite (by rw [hn.kind]) (fun _=>Sim.ret hn) fun _=>Sim.bind (Sim.peek hA (.inl rfl)) fun t t' ht=>Sim.ite (by unfold assigningT;rw [ht.kind,ht.text]) (fun _=>Sim.bind (V:=NdR A) ?_ fun k k' hk=>Sim.bind (Sim.take hA) fun _ _ _=>Sim.bind hR.assign fun r r' hr=>Sim.node ht.text (fun h=>absurd h (by decide)) _ hk.ok (ndsR_two hk hr)) fun _=>Sim.ret hn
 exact Sim.ite (by rw [ht.text]) (fun _=>Sim.pattern hA hn) fun _=>Sim.bind (Sim.target hA hn) fun _ _ _=>Sim.ret hn
theorem condR:Sim A (NdR A) (condS A.s R) (condS A.s' R'):=by
 unfold condS
 refine Sim.bind (hR.binary 1 false) fun n n' hn=>Sim.ite (by rw [hn.kind]) (fun _=>Sim.ret hn) fun _=>Sim.bind (Sim.is hA _) fun b b' hb=> ?_
 subst hb
 exact Sim.ite Iff.rfl (fun _=>Sim.bind hR.innerAssign fun k k' hk=>Sim.bind (Sim.want hA _) fun _ _ _=>Sim.bind hR.assign fun o o' ho=>Sim.node rfl (fun h=>absurd h (by decide)) _ hn.ok (ndsR_three hn hk ho)) fun _=>Sim.ret hn
theorem opsR (l:Int) (b:Bool): ∀(g:Nat) (n n':Nd),NdR A n n'→Sim A (NdR A) (binaryS.opsL A.s R l b g n) (binaryS.opsL A.s' R' l b g n')
 |0,_,_,_=>Sim.out _
 |g+1,n,n',hn=>by
  unfold binaryS.opsL
  refine Sim.bind (Sim.operator hA) fun r r' hr=>Sim.ite (by rw [hr.2]) (fun _=>Sim.ret hn) fun _=>Sim.ite (by rw [hr.1.text,hn.logical,hn.kind]) (fun _=>Sim.odd _) fun _=>Sim.bind (Sim.take hA) fun _ _ _=>Sim.bind (V:=NdR A) ?_ fun k k' hk=>Sim.bind (Sim.node hr.1.text (fun h=>absurd h (by decide)) _ hn.ok (ndsR_two hn hk)) fun m m' hm=>opsR l b g m m' hm
  refine Sim.ite (by rw [hr.1.text]) (fun _=>Sim.bind (Sim.peek hA (.inr rfl)) fun u u' hu=>Sim.deeper _ _ ?_) fun _=> ?_
  ·rw [hr.2];exact hR.binary _ _
  ·rw [hr.2,hr.1.text];exact hR.binary _ _
theorem binaryR (f:Nat) (l:Int) (b:Bool):Sim A (NdR A) (binaryS A.s f R l b) (binaryS A.s' f R' l b):=
 Sim.bind (hR.operand l) fun n n' hn=>Sim.ite (by rw [hn.kind]) (fun _=>Sim.ret hn) fun _=>opsR hA hR l b f n n' hn
theorem operandR (l:Int):Sim A (NdR A) (operandS A.s R l) (operandS A.s' R' l):=by
 unfold operandS
 exact Sim.bind (Sim.peek hA (.inr rfl)) fun t t' ht=>Sim.ite (by rw [ht.kind]) (fun _=>hR.unary) fun _=>Sim.bind (Sim.take hA) fun _ _ _=>Sim.bind (Sim.peek hA (.inl rfl)) fun u u' hu=>Sim.bind Sim.get fun p p' hp=>Sim.ite (by rw [hp.flags,hu.name]) (fun _=>Sim.bad _ _ _) fun _=>Sim.ret (leafR hA 2 ht)
theorem prefixR:Sim A (NdR A) (prefixS A.s R) (prefixS A.s' R'):=
 Sim.bind (Sim.take hA) fun _ _ _=>Sim.bind (Sim.peek hA (.inr rfl)) fun _ _ _=>Sim.deeper _ _ hR.unary
theorem unaryR:Sim A (NdR A) (unaryS A.s R) (unaryS A.s' R'):=by
 unfold unaryS
 refine Sim.bind (Sim.peek hA (.inr rfl)) fun t t' ht=>Sim.ite (by simp only [ht.name,ht.punct]) (fun _=>Sim.bind (prefixR hA hR) fun n n' hn=>Sim.node ht.text (fun h=>absurd h (by decide)) _ (okS hA ht.from') (ndsR_one hn)) fun _=>Sim.bind Sim.get fun p p' hp=>Sim.ite (by rw [ht.name,hp.flags]) (fun _=>Sim.bind (prefixR hA hR) fun n n' hn=>Sim.node rfl (fun h=>absurd h (by decide)) _ (okS hA ht.from') (ndsR_one hn)) fun _=>Sim.ite (by simp only [ht.punct]) (fun h=> ?_) fun _=>Sim.bind hR.leftHand fun n n' hn=>Sim.ite (by rw [hn.kind]) (fun _=>Sim.ret hn) fun _=>Sim.bind (Sim.peek hA (.inl rfl)) fun u u' hu=>Sim.ite (by simp [hu.punct,hu.fr.2.1,hu.fr.2.2.1]) (fun h=> ?_) fun _=>Sim.ret hn
 ·rw [ht.fr.2.1,ht.fr.2.2.1] at h;simp at h
 ·rw [hu.fr.2.1,hu.fr.2.2.1] at h;simp at h
theorem argsR:Sim A (NdR A) (argsS A.s R) (argsS A.s' R'):=
 Sim.bind (Sim.want hA _) fun _ _ ht=>hR.arguments _ _ (okS hA ht.from')
theorem argumentsR (f:Nat) (i i':Int) (hi:okI i'=true):Sim A (NdR A) (argumentsQ A.s f R i) (argumentsQ A.s' f R' i'):=by
 unfold argumentsQ
 refine Sim.bind (Sim.with 1 0 (Sim.list hA (V:=NdsR A) _ (.inr rfl) ?_ f [] [] false (ndsR_nil))) fun r r' hr=>Sim.node rfl (fun h=>absurd h (by decide)) _ hi hr.1
 intro a b h
 exact Sim.ite (by rw [ndsR_len _ _ h]) (fun _=>Sim.out _) fun _=>Sim.bind hR.spread fun k k' hk=>Sim.bind (Sim.comma hA hk) fun _ _ _=>Sim.ret (ndsR_app h (ndsR_one hk))
theorem spreadR:Sim A (NdR A) (spreadS A.s R) (spreadS A.s' R'):=
 Sim.bind (Sim.peek hA (.inr rfl)) fun t t' ht=>Sim.ite (by rw [ht.punct]) (fun _=>Sim.bind (Sim.take hA) fun _ _ _=>Sim.bind hR.assign fun n n' hn=>Sim.node rfl (fun h=>absurd h (by decide)) _ (okS hA ht.from') (ndsR_one hn)) fun _=>hR.assign
theorem indexR:Sim A (NdR A) (indexS A.s R) (indexS A.s' R'):=
 Sim.bind hR.inner fun _ _ hn=>Sim.bind (Sim.want hA _) fun _ _ _=>Sim.ret hn
theorem linkR {n n':Nd} (hn:NdR A n n') (c t:Bool):Sim A (fun a b:Nd × Bool=>NdR A a.1 b.1∧b.2=a.2) (linkS A.s R n c t) (linkS A.s' R' n' c t):=by
 unfold linkS
 refine Sim.bind (Sim.peek hA (.inl rfl)) fun t t' ht=>Sim.ite (by rw [ht.punct]) (fun _=>Sim.bind (Sim.take hA) fun _ _ _=> ?_) fun _=>Sim.ite (by rw [ht.punct]) (fun _=>Sim.bind (Sim.take hA) fun _ _ _=>Sim.bind hR.index fun k k' hk=>Sim.bind (Sim.node rfl (fun h=>absurd h (by decide)) _ hn.ok (ndsR_two hn hk)) fun m m' hm=>Sim.ret ⟨hm,rfl⟩) fun _=>Sim.ite (by rw [ht.punct]) (fun _=>Sim.bind hR.args fun k k' hk=>Sim.bind (Sim.node rfl (fun h=>absurd h (by decide)) _ hn.ok (ndsR_two hn hk)) fun m m' hm=>Sim.ret ⟨hm,rfl⟩) fun _=>Sim.ite (by rw [ht.kind]) (fun h=> ?_) fun _=>Sim.ret ⟨hn,rfl⟩
 ·rw [hn.kind,hn.text]
  exact Sim.bind (Sim.property hA _) fun k k' hk=>Sim.bind (Sim.node rfl (fun h=>absurd h (by decide)) _ hn.ok (ndsR_two hn hk)) fun m m' hm=>Sim.ret ⟨hm,rfl⟩
 ·exact absurd h (fun h=>h.elim ht.fr.2.2.2.2.2.1 ht.fr.2.2.2.2.2.2.1)
theorem linkLR: ∀(g:Nat) (n n':Nd),NdR A n n'→Sim A (NdR A) (leftHandS.linkL A.s R g n) (leftHandS.linkL A.s' R' g n')
 |0,_,_,_=>Sim.out _
 |g+1,n,n',hn=>by
  unfold leftHandS.linkL
  refine Sim.bind (Sim.peek hA (.inl rfl)) fun t t' ht=>Sim.ite (by rw [ht.punct]) (fun h=> ?_) fun _=>Sim.bind (hR.link n n' true true hn) fun r r' hr=>Sim.ite (by rw [hr.2]) (fun _=>linkLR g _ _ hr.1) fun _=>Sim.ret hr.1
  rw [ht.fr.2.2.2.2.2.2.2] at h
  cases h
theorem leftHandR (f:Nat):Sim A (NdR A) (leftHandS A.s f R) (leftHandS A.s' f R'):=by
 unfold leftHandS
 refine Sim.bind (Sim.peek hA (.inr rfl)) fun t t' ht=>Sim.bind Sim.get fun p p' hp=>Sim.bind (hR.base t t' true ht) fun n n' hn=>Sim.ite (by rw [hn.kind]) (fun _=>Sim.ret hn) fun _=> ?_
 have h1:(decide (n.kind=1) && decide (n.text=⟨#[97,115,121,110,99]⟩))=false:=by
  rw [Bool.and_eq_false_iff]
  by_cases h:n.kind=1
  ·exact .inr (decide_eq_false (hn.asy h))
  ·exact .inl (decide_eq_false h)
 refine Sim.ite (by rw [hn.kind,hn.text,Bool.and_assoc,Bool.and_assoc,h1,Bool.and_false,Bool.and_false]) (fun h=> ?_) fun _=>linkLR hA hR f n n' hn
 rw [Bool.and_assoc,h1,Bool.and_false] at h
 cases h
theorem baseR (m:Bool) {t t':Tk} (ht:TkR A t t') (c:Bool):Sim A (NdR A) (baseS A.s m R t c) (baseS A.s' m R' t' c):=by
 unfold baseS
 refine Sim.ite (by rw [ht.name]) (fun _=>Sim.bind (Sim.take hA) fun _ _ _=>hR.new _ _ (okS hA ht.from')) fun _=>Sim.ite (by rw [ht.name]) (fun _=>Sim.bind (Sim.take hA) fun u u' hu=>Sim.bind (Sim.peek hA (.inl rfl)) fun v v' hv=>Sim.ite (by simp only [hv.punct]) (fun _=>Sim.odd _) fun _=>Sim.bind (hR.link _ _ c false (leafR hA 6 hu)) fun r r' hr=>Sim.ret hr.1) fun _=>Sim.ite (by rw [ht.name]) (fun _=>Sim.bind (Sim.take hA) fun _ _ _=>Sim.bind (V:=fun a b=>b=a) ?_ fun b b' hb=> ?_) fun _=>hR.primary t t' ht
 ·exact Sim.ite Iff.rfl (fun _=>Sim.is hA _) fun _=>Sim.ret rfl
 ·subst hb
  exact Sim.ite Iff.rfl (fun _=>Sim.bind (Sim.must hA _) fun _ _ _=>Sim.node rfl (fun h=>absurd h (by decide)) _ (okS hA ht.from') (ndsR_nil)) fun _=>Sim.ite Iff.rfl (fun _=>Sim.bind (Sim.peek hA (.inl rfl)) fun _ _ _=>Sim.odd _) fun _=>Sim.bind (Sim.want hA _) fun _ _ _=>Sim.bind hR.innerAssign fun n n' hn=>Sim.bind (Sim.is hA _) fun _ _ _=>Sim.bind (Sim.want hA _) fun _ _ _=>Sim.node rfl (fun h=>absurd h (by decide)) _ (okS hA ht.from') (ndsR_one hn)
omit hA in
theorem moreR: ∀(g:Nat) (n n':Nd) (b:Bool),NdR A n n'→Sim A (NdR A) (newS.moreL R g n b) (newS.moreL R' g n' b)
 |0,_,_,_,_=>Sim.out _
 |g+1,n,n',b,hn=>by
  unfold newS.moreL
  refine Sim.ite Iff.rfl (fun _=>Sim.bind (hR.link n n' false true hn) fun r r' hr=> ?_) fun _=>Sim.ret hn
  rw [hr.2]
  exact moreR g _ _ _ hr.1
theorem newR (f:Nat) (i i':Int) (hi:okI i'=true):Sim A (NdR A) (newS A.s f R i) (newS A.s' f R' i'):=by
 unfold newS
 refine Sim.bind (Sim.is hA _) fun b b' hb=> ?_
 subst hb
 refine Sim.ite Iff.rfl (fun _=>Sim.bind (Sim.must hA _) fun _ _ _=>Sim.node rfl (fun h=>absurd h (by decide)) _ hi (ndsR_nil)) fun _=>Sim.bind (Sim.peek hA (.inr rfl)) fun t t' ht=>Sim.bind (Sim.deeper _ _ (Sim.bind (hR.base t t' false ht) fun n n' hn=>Sim.ite (by rw [hn.kind,ndsR_len _ _ hn.kids]) (fun _=>Sim.out _) fun _=> ?_)) fun n n' hn=>Sim.bind (Sim.peek hA (.inl rfl)) fun u u' hu=>Sim.ite (by rw [hu.punct]) (fun _=>Sim.bind hR.args fun k k' hk=>Sim.node rfl (fun h=>absurd h (by decide)) _ hi (ndsR_two hn hk)) fun _=>Sim.node rfl (fun h=>absurd h (by decide)) _ hi (ndsR_two hn (zeroR hA))
 rw [hn.bare hA]
 exact moreR hR f n n' _ hn
theorem primaryR {t t':Tk} (ht:TkR A t t'):Sim A (NdR A) (primaryS R t) (primaryS R' t'):=by
 unfold primaryS
 refine Sim.ite (by rw [ht.kind]) (fun _=> ?_) fun _=>Sim.ite (by rw [ht.kind]) (fun _=>Sim.bind (Sim.take hA) fun u u' hu=>Sim.ret (leafR hA 5 hu)) fun _=>Sim.ite (by rw [ht.kind]) (fun h=> ?_) fun _=>Sim.ite (by rw [ht.kind]) (fun _=>hR.named t t' ht) fun _=>Sim.ite (by rw [ht.punct]) (fun _=>hR.array) fun _=>Sim.ite (by rw [ht.punct]) (fun _=>hR.object) fun _=>Sim.ite (by rw [ht.punct]) (fun _=>hR.paren t t' ht) fun _=>Sim.ite (by rw [ht.punct]) (fun _=>hR.element1) fun _=>Sim.odd _
 ·rw [ht.kind]
  exact Sim.bind (Sim.take hA) fun u u' hu=>Sim.ret (leafR hA _ hu)
 ·exact absurd h (fun h=>h.elim ht.fr.2.2.2.2.2.1 ht.fr.2.2.2.2.2.2.1)
theorem namedR (m:Bool) {t t':Tk} (ht:TkR A t t'):Sim A (NdR A) (namedS A.s m R t) (namedS A.s' m R' t'):=by
 unfold namedS
 exact Sim.ite (by rw [ht.text]) (fun _=>Sim.bind (Sim.take hA) fun u u' hu=>Sim.ret (leafR hA 6 hu)) fun _=>Sim.ite (by rw [ht.text]) (fun _=>hR.funcs) fun _=>Sim.ite (by rw [ht.text]) (fun _=>hR.cls) fun _=>Sim.ite (by rw [ht.text]) (fun h=>absurd h ht.fr.2.2.2.1) fun _=>Sim.takeIdent hA m
omit hA hR in
theorem ndsR_last: ∀ {ks ks':List Nd},NdsR A ks ks'→(ks.getLast? =none∧ks'.getLast? =none)∨∃a b,ks.getLast? =some a∧ks'.getLast? =some b∧NdR A a b
 | [],[],_=> .inl ⟨rfl,rfl⟩
 | [],_::_,h=>(ndsR_nc h).elim
 |_::_,[],h=>(ndsR_cn h).elim
 |x::xs,y::ys,h=>by
  rw [NdsR] at h
  rcases ndsR_last h.2 with ⟨h1,h2⟩|⟨a,b,h1,h2,h3⟩
  ·rw [List.getLast?_eq_none_iff] at h1 h2
   subst h1 h2
   exact .inr ⟨x,y,rfl,rfl,h.1⟩
  ·exact .inr ⟨a,b,by rw [List.getLast?_cons,h1];rfl,by rw [List.getLast?_cons,h2];rfl,h3⟩
omit hR in
theorem parenNR {a a' l l':Nd} (ha:NdR A a a') (hl:NdR A l l'):NdR A (parenN a l) (parenN a' l'):=by
 have hk:=ha.kids
 unfold parenN
 have hnil:NdsR A [] []:=ndsR_nil
 have hseq:NdR A (.mk 26 ⟨#[]⟩ [.mk 32 ⟨#[]⟩ a.kids (a.kids.headD .zero).from' l.till] a.from' a.till) (.mk 26 ⟨#[]⟩ [.mk 32 ⟨#[]⟩ a'.kids (a'.kids.headD .zero).from' l'.till] a'.from' a'.till):=by
  rw [NdR]
  refine⟨rfl,rfl,fun h=>absurd h (by decide),ha.ok,ha.till,ndsR_one ?_⟩
  rw [NdR]
  exact⟨rfl,rfl,fun h=>absurd h (by decide),(ndsR_head hk hA).ok,hl.till,hk⟩
 match e:a.kids,e':a'.kids with
 | [k],[k']=>
  rw [e,e'] at hk
  rw [NdsR] at hk
  simp only
  rw [NdR]
  exact⟨rfl,rfl,fun h=>absurd h (by decide),ha.ok,ha.till,ndsR_one hk.1⟩
 | [],[]=>rw [e,e'] at hseq;exact hseq
 |x::y::xs,x'::y'::xs'=>rw [e,e'] at hseq;exact hseq
 | [],_::_=>rw [e,e'] at hk;exact(ndsR_nc hk).elim
 |_::_,[]=>rw [e,e'] at hk;exact(ndsR_cn hk).elim
 | [_],_::_::_=>rw [e,e',NdsR] at hk;first|exact(ndsR_nc hk.2).elim|exact(ndsR_cn hk.2).elim
 |_::_::_,[_]=>rw [e,e',NdsR] at hk;first|exact(ndsR_nc hk.2).elim|exact(ndsR_cn hk.2).elim
omit hA hR in
theorem ndsR_any: ∀ {ks ks':List Nd},NdsR A ks ks'→(ks'.isEmpty||ks'.any (fun k=>decide (k.kind=18)))=(ks.isEmpty||ks.any (fun k=>decide (k.kind=18))):=by
 have key: ∀ {ks ks':List Nd},NdsR A ks ks'→ks'.any (fun k=>decide (k.kind=18))=ks.any (fun k=>decide (k.kind=18)):=by
  intro ks
  induction ks with
  |nil=>intro ks' h;cases ks' with|nil=>rfl|cons y ys=>exact(ndsR_nc h).elim
  |cons x xs ih=>
   intro ks' h
   cases ks' with
   |nil=>exact(ndsR_cn h).elim
   |cons y ys=>rw [NdsR] at h;rw [List.any_cons,List.any_cons,ih h.2,h.1.kind]
 intro ks ks' h
 rw [key h]
 match ks,ks',h with
 | [],[],_=>rfl
 | [],_::_,h=>exact(ndsR_nc h).elim
 |_::_,[],h=>exact(ndsR_cn h).elim
 |_::_,_::_,_=>rfl
omit hR in
theorem parenXR {a a':Nd} (ha:NdR A a a'):Sim A (NdR A) (parenX A.s a) (parenX A.s' a'):=by
 unfold parenX
 refine Sim.ite (by rw [ndsR_any ha.kids]) (fun _=>Sim.out _) fun _=> ?_
 unfold trailingQ
 rcases ndsR_last ha.kids with ⟨h1,h2⟩|⟨l,l',h1,h2,hl⟩
 ·rw [h1]
  refine Sim.bind (V:=fun b b'=>b'=b) ?_ fun b b' hb=>Sim.ite (by rw [hb]) (fun _=>Sim.out _) fun _=>Sim.ret (parenNR hA ha (by rw [List.getLastD_eq_getLast?,List.getLastD_eq_getLast?,h1,h2];exact zeroR hA))
  by_cases h:4194304<a.kids.length
  ·rw [if_pos h];exact Sim.out _
  ·rw [if_neg h];exact Sim.out _
 ·have e:a.kids.getLastD .zero=l:=by rw [List.getLastD_eq_getLast?,h1];rfl
  have e':a'.kids.getLastD .zero=l':=by rw [List.getLastD_eq_getLast?,h2];rfl
  rw [h1,h2,e,e']
  refine Sim.bind (V:=fun b b'=>b'=b) (Sim.ite (by rw [ndsR_len _ _ ha.kids]) (fun _=>Sim.out _) fun _=>Sim.bind (Sim.look hA hl.till) fun t t' ht=>Sim.ret (by rw [ht.punct])) fun b b' hb=>Sim.ite (by rw [hb]) (fun _=>Sim.out _) fun _=>Sim.ret (parenNR hA ha hl)
theorem parenR {t t':Tk} (ht:TkR A t t'):Sim A (NdR A) (parenQ A.s R t) (parenQ A.s' R' t'):=by
 unfold parenQ
 refine Sim.bind Sim.get fun p p' hp=>Sim.bind (Sim.take hA) fun _ _ _=>Sim.bind (hR.arguments _ _ (okS hA ht.from')) fun a a' ha=>Sim.bind (V:=fun a b=>a=false∧b=false) ?_ fun b b' hb=> ?_
 ·refine Sim.ite ?_ (fun _=>Sim.bind (Sim.peek hA (.inl rfl)) fun u u' hu=>Sim.ret ?_) fun _=>Sim.ret ⟨rfl,rfl⟩
  ·rcases hp.arrow with ⟨h1,h2⟩|h
   ·have:=hA.spos _ _ ht.from'
    rw [h1,h2]
    constructor<;>intro h<;>omega
   ·exact hA.inj _ _ _ _ ht.from' h
  ·rw [hu.punct,hu.fr.1]
   exact⟨rfl,rfl⟩
 ·obtain⟨rfl,rfl⟩:=hb
  exact Sim.ite Iff.rfl (fun h=>by cases h) fun _=>parenXR hA ha
end
end
section
open Go.RowKit
section
variable {A:Al}
theorem envS (hA:A.Ok) (m:Bool): ∀f:Nat,EnvS A (runQ A.s m f) (runQ A.s' m f)
 |0=>by constructor<;>intros<;>exact Sim.out _
 |f+1=>
  have ih:=envS hA m f
  {
   expression:=expressionR hA ih f
   inner:=Sim.with 1 0 ih.expression
   innerAssign:=Sim.with 1 0 ih.assign
   assign:=assignR hA ih m
   cond:=condR hA ih
   unary:=unaryR hA ih
   args:=argsR hA ih
   spread:=spreadR hA ih
   index:=indexR hA ih
   leftHand:=leftHandR hA ih f
   array:=Sim.out _
   object:=Sim.out _
   element1:=Sim.out _
   funcs:=Sim.out _
   cls:=Sim.out _
   assigned:=fun n n' h=>assignedR hA ih h
   binary:=fun l b=>binaryR hA ih f l b
   operand:=fun l=>operandR hA ih l
   arguments:=fun i i' h=>argumentsR hA ih f i i' h
   link:=fun n n' c t h=>linkR hA ih h c t
   base:=fun t t' c h=>baseR hA ih m h c
   new:=fun i i' h=>newR hA ih f i i' h
   primary:=fun t t' h=>primaryR hA ih h
   named:=fun t t' h=>namedR hA ih m h
   paren:=fun t t' h=>parenR hA ih h }
mutual
theorem ndR_prop: ∀n n':Nd,NdR A n n'→noProp n'=noProp n
 | .mk k t ks f u,.mk k' t' ks' f' u',h=>by
  rw [NdR] at h
  rw [noProp,noProp,h.1,ndsR_prop ks ks' h.2.2.2.2.2]
theorem ndsR_prop: ∀ks ks':List Nd,NdsR A ks ks'→noProps ks'=noProps ks
 | [],[],_=>rfl
 | [],_::_,h=>(ndsR_nc h).elim
 |_::_,[],h=>(ndsR_cn h).elim
 |x::xs,y::ys,h=>by
  rw [NdsR] at h
  rw [noProps,noProps,ndR_prop x y h.1,ndsR_prop xs ys h.2]
end
mutual
theorem ndR_deep: ∀n n':Nd,NdR A n n'→ndDeep n'=ndDeep n
 | .mk k t ks f u,.mk k' t' ks' f' u',h=>by
  rw [NdR] at h
  rw [ndDeep,ndDeep,ndsR_deep ks ks' h.2.2.2.2.2]
theorem ndsR_deep: ∀ks ks':List Nd,NdsR A ks ks'→ndDeeps ks'=ndDeeps ks
 | [],[],_=>rfl
 | [],_::_,h=>(ndsR_nc h).elim
 |_::_,[],h=>(ndsR_cn h).elim
 |x::xs,y::ys,h=>by
  rw [NdsR] at h
  rw [ndDeeps,ndDeeps,ndR_deep x y h.1,ndsR_deep xs ys h.2]
end
mutual
theorem ndR_bare: ∀n n':Nd,NdR A n n'→bareNd n'=bareNd n
 | .mk k t ks f u,.mk k' t' ks' f' u',h=>by
  rw [NdR] at h
  rw [bareNd,bareNd,h.1,h.2.1,ndsR_bare ks ks' h.2.2.2.2.2,ndsR_fst ks ks' h.2.2.2.2.2]
theorem ndsR_bare: ∀ks ks':List Nd,NdsR A ks ks'→bareNds ks'=bareNds ks
 | [],[],_=>rfl
 | [],_::_,h=>(ndsR_nc h).elim
 |_::_,[],h=>(ndsR_cn h).elim
 |x::xs,y::ys,h=>by
  rw [NdsR] at h
  rw [bareNds,bareNds,ndR_bare x y h.1,ndsR_bare xs ys h.2]
theorem ndsR_fst: ∀ks ks':List Nd,NdsR A ks ks'→bareFst ks'=bareFst ks
 | [],[],_=>rfl
 | [],_::_,h=>(ndsR_nc h).elim
 |_::_,[],h=>(ndsR_cn h).elim
 |x::xs,y::ys,h=>by
  rw [NdsR] at h
  rw [bareFst,bareFst,ndR_bare x y h.1]
end
theorem ps0R (hA:A.Ok) (m:Bool):PsR A (ps0 m) (ps0 m):=
 ⟨hA.zero,rfl,⟨rfl,rfl,hA.szero,hA.zero,rfl⟩,rfl,rfl,.inl ⟨rfl,rfl⟩,⟨rfl,rfl⟩,Int.le_refl _,Int.le_refl _⟩
theorem expr_sim (hA:A.Ok) {m:Bool} {f:Nat} {n:Nd} {q:Ps} (h:exprQ A.s m f= .ok n q): ∃n' q',exprQ A.s' m f= .ok n' q'∧NdR A n n':=by
 have ih:=envS hA m f
 have key:Sim A (NdR A) (readQ (expr1S A.s (runQ A.s m f))) (readQ (expr1S A.s' (runQ A.s' m f))):=by
  unfold readQ
  refine Sim.bind (V:=NdR A) ?_ fun a b hab=>Sim.ite (by rw [ndR_prop _ _ hab]) (fun _=>Sim.out _) fun _=>Sim.ite (by rw [ndR_size _ _ hab]) (fun _=>Sim.out _) fun _=>Sim.ite (by rw [ndR_deep _ _ hab]) (fun _=>Sim.bad _ _ _) fun _=>Sim.ret hab
  unfold expr1S
  exact Sim.bind ih.expression fun a b hab=>Sim.bind (Sim.peek hA (.inl rfl)) fun t t' ht=>Sim.ite (by rw [ht.kind]) (fun _=>Sim.ret hab) fun _=>Sim.odd _
 obtain⟨n',q',h1,h2,_⟩:=key _ _ _ _ (ps0R hA m) h
 exact⟨n',q',h1,h2⟩
end
end
section
open Go.RowKit
theorem gp_gap {S:ByteArray} {p:Nat} {c:UInt8} {rest:List UInt8} (line:Bool) (h:S.data.toList.drop p=c::rest) (hc:c.toNat<128) (hg:(endsR ((c.toNat:Nat):Int)||blankR ((c.toNat:Nat):Int))=true):
  btw S p line=btw S (p+1) (line||endsR ((c.toNat:Nat):Int)):=by
 have hp:=tx_lt h
 have hgap:isGap (c::rest)=true:=by
  unfold isGap
  rw [nx_ascii c rest hc]
  simp only
  rw [hg]
  rfl
 rw [btw_step S p line (by omega),h,if_pos hgap,nx_ascii c rest hc]
 rfl
theorem gp_cm {S:ByteArray} {p n k:Nat} {l:List UInt8} {ln:Bool} (line:Bool) (h:S.data.toList.drop p=l) (hp:p≤S.size) (hg:isGap l=false) (hk:cmKind p l=k) (h0:k≠0)
  (hc:cmt (decide (k=2)) (l.drop 2)= .fine n ln):
  btw S p line=(btw S (p+2+n) (line||ln)).pre [⟨k,S.extract p (p+2+n),p,((p+2+n:Nat):Int)⟩]:=by
 subst h hk
 rw [List.drop_drop] at hc
 rw [btw_step S p line hp,hg,if_neg (by decide),if_neg h0,hc]
theorem gp_go {blk:Bool} {c:UInt8} {l:List UInt8} {n:Nat} {ln:Bool} (hc:c.toNat<128) (h0:c≠42) (hl:blk=true∨endsR ((c.toNat:Nat):Int)=false) (h:cmt blk l= .fine n ln):cmt blk (c::l)= .fine (1+n) (endsR ((c.toNat:Nat):Int)||ln):=by
 rw [cmt_step,if_neg (by rintro⟨_,h⟩;rw [pre_no h0] at h;cases h),nx_ascii c _ hc,if_neg (show¬((1:Int)=0) by decide),if_neg (show¬((1:Int)<0) by decide),if_neg (by
  rintro⟨h1,h2⟩
  rcases hl with h|h
  ·rw [h1] at h;cases h
  ·rw [show endsR ((c.toNat:Nat):Int)=true from h2] at h;cases h)]
 show(cmt blk l).shift 1 _=_
 rw [h]
 rfl
theorem gp_end (r:List UInt8):cmt true (42::47::r)= .fine 2 false:=by
 rw [cmt_step,if_pos ⟨rfl,rfl⟩]
theorem gp_ln (r:List UInt8):cmt false (10::r)= .fine 0 false:=by
 rw [cmt_step,if_neg (by rintro⟨h,_⟩;cases h),nx_ascii 10 _ (by decide),if_neg (by decide),if_neg (by decide),if_pos ⟨rfl,by decide⟩]
def gapRow:List (List UInt8):= [[32],[10],[47,42,32,99,32,42,47],[47,47,32,100,10],[9,13,10],[32,47,42,10,42,47,32]]
theorem btw_stop {S:ByteArray} {p:Nat} {r:List UInt8} (line:Bool) (hd:S.data.toList.drop p=r) (hp:p≤S.size) (hr:Ink0 r):btw S p line= .fine p line []:=btw_ink hd hp ⟨hr.1,hr.2 p⟩
theorem gp_btw {S:ByteArray} {p:Nat} {g r:List UInt8} (hg:g ∈ gapRow) (hd:S.data.toList.drop p=g++r) (hp:p≤S.size) (hr:Ink0 r): ∃line cs,btw S p false= .fine (p+g.length) line cs∧cs.length≤g.length:=by
 have hf:=tx_fits hd hp
 have hq:=tx_app hd
 simp only [gapRow,List.mem_cons,List.not_mem_nil,or_false] at hg
 rcases hg with rfl|rfl|rfl|rfl|rfl|rfl
 ·exact⟨_,[],(gp_gap _ hd (by decide) (by decide)).trans (btw_stop _ hq hf hr),by decide⟩
 ·exact⟨_,[],(gp_gap _ hd (by decide) (by decide)).trans (btw_stop _ hq hf hr),by decide⟩
 ·have h1:=gp_cm (k:=2) (n:=5) (ln:=false) false hd hp (by unfold isGap;rw [List.cons_append,nx_ascii _ _ (by decide)];decide) (by unfold cmKind;rw [if_neg (by simp [Lib.hasPrefix]),if_pos (by simp [Lib.hasPrefix])]) (by decide) (gp_go (by decide) (by decide) (.inl rfl) (gp_go (by decide) (by decide) (.inl rfl) (gp_go (by decide) (by decide) (.inl rfl) (gp_end r))))
  rw [btw_stop (p:=p+2+5) _ hq hf hr] at h1
  exact⟨_,_,h1,by simp⟩
 ·have h1:=gp_cm (k:=1) (n:=2) (ln:=false) false hd hp (by unfold isGap;rw [List.cons_append,nx_ascii _ _ (by decide)];decide) (by unfold cmKind;rw [if_pos (by simp [Lib.hasPrefix])]) (by decide) (gp_go (by decide) (by decide) (.inr (by decide)) (gp_go (by decide) (by decide) (.inr (by decide)) (gp_ln r)))
  have h2:S.data.toList.drop (p+4)=10::r:=tx_app (a:= [47,47,32,100]) (l:=10::r) hd
  rw [show p+2+2=p+4 by omega,gp_gap _ h2 (by decide) (by decide),btw_stop (p:=p+4+1) _ hq hf hr] at h1
  exact⟨_,_,h1,by simp⟩
 ·have h1:S.data.toList.drop (p+1)=13::10::r:=tx_app (a:= [9]) (l:=13::10::r) hd
  have h2:S.data.toList.drop (p+1+1)=10::r:=tx_app (p:=p+1) (a:= [13]) (l:=10::r) h1
  exact⟨_,[],(gp_gap _ hd (by decide) (by decide)).trans ((gp_gap _ h1 (by decide) (by decide)).trans ((gp_gap _ h2 (by decide) (by decide)).trans (btw_stop _ hq hf hr))),by decide⟩
 ·have h0:S.data.toList.drop (p+1)=47::42::10::42::47::32::r:=tx_app (a:= [32]) (l:=47::42::10::42::47::32::r) hd
  have h6:S.data.toList.drop (p+6)=32::r:=tx_app (a:= [32,47,42,10,42,47]) (l:=32::r) hd
  have h1:=gp_cm (k:=2) (n:=3) (ln:=true) (false||endsR (((32:UInt8).toNat:Nat):Int)) h0 (Nat.le_of_lt (tx_lt h0)) (by unfold isGap;rw [nx_ascii _ _ (by decide)];decide) (by unfold cmKind;rw [if_neg (by simp [Lib.hasPrefix]),if_pos (by simp [Lib.hasPrefix])]) (by decide) (gp_go (by decide) (by decide) (.inl rfl) (gp_end (32::r)))
  rw [show p+1+2+3=p+6 by omega,gp_gap _ h6 (by decide) (by decide),btw_stop (p:=p+6+1) _ hq hf hr] at h1
  exact⟨_,_,(gp_gap _ hd (by decide) (by decide)).trans h1,by simp⟩
def bkT:List (Int × List UInt8):= [(1,[97]),(5,[43]),(1,[98]),(5,[42]),(5,[40]),(1,[99]),(5,[44]),(1,[100]),(5,[41]),(5,[38,38]),(1,[102]),(5,[91]),(1,[101]),(5,[93]),(5,[63]),(1,[120]),(5,[58]),(1,[121]),(5,[44]),(1,[119]),(5,[61]),(1,[122])]
def bkX:List (List UInt8 × (Int × List UInt8))→List UInt8
 | []=> []
 |x::xs=>x.1++(x.2.2++bkX xs)
theorem bkX_app: ∀xs ys,bkX (xs++ys)=bkX xs++bkX ys
 | [],_=>rfl
 |x::xs,ys=>by rw [List.cons_append,bkX,bkX,bkX_app xs ys,List.append_assoc,List.append_assoc]
def bkE (ps:List (List UInt8 × (Int × List UInt8))) (j:Nat):Nat:=(bkX (ps.take j)).length
def bkS (ps:List (List UInt8 × (Int × List UInt8))) (j:Nat):Nat:=bkE ps j+((ps[j]?.map (·.1)).getD []).length
structure BkOk (ps:List (List UInt8 × (Int × List UInt8))):Prop where
 toks:ps.map (·.2)=bkT
 gaps: ∀x ∈ ps,x.1 ∈ gapRow
def Fit (l:List UInt8):Prop:=l= []∨∃c r,l=c::r∧(c=32∨c=10∨c=47∨c=9)
theorem fit_X: ∀ps,(∀x ∈ ps,x.1 ∈ gapRow)→Fit (bkX ps)
 | [],_=> .inl rfl
 |x::xs,h=>by
  have h1:=h x (.head _)
  rw [bkX]
  generalize x.1=g at*
  simp only [gapRow,List.mem_cons,List.not_mem_nil,or_false] at h1
  rcases h1 with rfl|rfl|rfl|rfl|rfl|rfl
  ·exact .inr ⟨_,_,rfl,.inl rfl⟩
  ·exact .inr ⟨_,_,rfl,.inr (.inl rfl)⟩
  ·exact .inr ⟨_,_,rfl,.inr (.inr (.inl rfl))⟩
  ·exact .inr ⟨_,_,rfl,.inr (.inr (.inl rfl))⟩
  ·exact .inr ⟨_,_,rfl,.inr (.inr (.inr rfl))⟩
  ·exact .inr ⟨_,_,rfl,.inl rfl⟩
theorem goes_fit {l:List UInt8} (h:Fit l):goesP false l=false∧0≤(nx l).2:=by
 rcases h with rfl|⟨c,r,rfl,h⟩
 ·exact⟨by decide,by decide⟩
 ·rcases h with rfl|rfl|rfl|rfl
  ·exact⟨goes_32 r,nx_32 r⟩
  ·refine⟨?_,by rw [nx_ascii _ _ (by decide)];decide⟩
   unfold goesP
   rw [nx_ascii _ _ (by decide)]
   decide
  ·refine⟨?_,by rw [nx_ascii _ _ (by decide)];decide⟩
   unfold goesP
   rw [nx_ascii _ _ (by decide)]
   decide
  ·refine⟨?_,by rw [nx_ascii _ _ (by decide)];decide⟩
   unfold goesP
   rw [nx_ascii _ _ (by decide)]
   decide
theorem bk_name {g:Int} {c:UInt8} {l:List UInt8} (hc:low c) (hl:Fit l):plainT g ([c]++l)= .fine 1 1:=
 plain_word (a:= []) hc (low_start hc) (fun x hx=>by cases hx) (goes_fit hl).1 (goes_fit hl).2
theorem bk_mark {g:Int} {c:UInt8} {a l:List UInt8} (hc:markC c=true) (h47:c≠47) (hl:Fit l) (h0:pct 1 (c::a)=(c::a).length)
  (h1: ∀r,pct 1 (c::(a++32::r))=(c::a).length) (h2: ∀r,pct 1 (c::(a++10::r))=(c::a).length) (h3: ∀r,pct 1 (c::(a++47::r))=(c::a).length) (h4: ∀r,pct 1 (c::(a++9::r))=(c::a).length):plainT g (c::a++l)= .fine 5 (c::a).length:=by
 have hp:pct g (c::(a++l))=(c::a).length:=by
  rw [show pct g (c::(a++l))=pct 1 (c::(a++l)) by rw [pct_no h47,pct_no h47]]
  rcases hl with rfl|⟨d,r,rfl,rfl|rfl|rfl|rfl⟩
  ·rw [List.append_nil];exact h0
  ·exact h1 r
  ·exact h2 r
  ·exact h3 r
  ·exact h4 r
 exact plain_markg hc h47 hp (by simp)
theorem bk_tok {g:Int} {l:List UInt8} (hl:Fit l): ∀x ∈ bkT,plainT g (x.2++l)= .fine x.1 x.2.length:=by
 intro x hx
 simp only [bkT,List.mem_cons,List.not_mem_nil,or_false] at hx
 rcases hx with rfl|rfl|rfl|rfl|rfl|rfl|rfl|rfl|rfl|rfl|rfl|rfl|rfl|rfl|rfl|rfl|rfl|rfl|rfl|rfl|rfl|rfl<;>
  first
  |exact bk_name (by decide) hl
  |exact bk_mark (by decide) (by decide) hl rfl (fun _=>rfl) (fun _=>rfl) (fun _=>rfl) (fun _=>rfl)
theorem bk_ink {l:List UInt8} : ∀x ∈ bkT,Ink0 (x.2++l):=by
 intro x hx
 simp only [bkT,List.mem_cons,List.not_mem_nil,or_false] at hx
 rcases hx with rfl|rfl|rfl|rfl|rfl|rfl|rfl|rfl|rfl|rfl|rfl|rfl|rfl|rfl|rfl|rfl|rfl|rfl|rfl|rfl|rfl|rfl<;>exact ink0_of (by decide) (by decide) (by decide) (by decide)
theorem nxt_12c {s:ByteArray} {p:Nat} {g:Int} (hg:g=1∨g=2) {q:Nat} {line:Bool} {cs:List Cm} {kind:Int} {n:Nat} (hb:btw s p false= .fine q line cs) (ht:plainT g (s.data.toList.drop q)= .fine kind n):nxt s p g= .fine kind q n line cs:=by
 unfold nxt tokT
 rcases hg with rfl|rfl<;>
 ·rw [if_neg (by rintro(h|h|⟨h,_⟩)<;>omega),if_neg (by decide),hb]
  simp only
  rw [if_neg (by decide),if_neg (by decide),if_neg (by decide),ht]
section
variable {S:ByteArray} {ps:List (List UInt8 × (Int × List UInt8))}
theorem bk_drop (hS:S.data.toList=bkX ps) (j:Nat):S.data.toList.drop (bkE ps j)=bkX (ps.drop j):=by
 have h:=bkX_app (ps.take j) (ps.drop j)
 rw [List.take_append_drop] at h
 rw [hS,h]
 unfold bkE
 rw [List.drop_left]
theorem bk_le (hS:S.data.toList=bkX ps) (j:Nat):bkE ps j≤S.size:=by
 have h:=bkX_app (ps.take j) (ps.drop j)
 rw [List.take_append_drop] at h
 have h2:S.data.toList.length=S.size:=Array.length_toList
 rw [←h2,hS,h,List.length_append]
 unfold bkE
 omega
theorem bk_next {j:Nat} (h:j<ps.length):bkE ps (j+1)=bkS ps j+ps[j].2.2.length:=by
 unfold bkS bkE
 rw [List.take_add_one,List.getElem?_eq_getElem h,bkX_app]
 simp only [Option.toList_some,Option.map_some,Option.getD_some,bkX,List.length_append,List.length_nil]
 omega
theorem bk_see (hS:S.data.toList=bkX ps) (hok:BkOk ps) {j:Nat} (h:j<ps.length) {g:Int} (hg:g=1∨g=2):
  ∃line cs,nxt S (bkE ps j) g= .fine ps[j].2.1 (bkS ps j) ps[j].2.2.length line cs∧tkOf S ps[j].2.1 (bkS ps j) ps[j].2.2.length line=⟨ps[j].2.1,⟨ps[j].2.2.toArray⟩,bkS ps j,bkE ps (j+1),line⟩∧cs.length+bkE ps j≤bkS ps j:=by
 have hd:=bk_drop hS j
 rw [List.drop_eq_getElem_cons h,bkX] at hd
 have hm:ps[j].2 ∈ bkT:=by rw [←hok.toks];exact List.mem_map_of_mem (List.getElem_mem h)
 have hgp:=hok.gaps _ (List.getElem_mem h)
 have hfit:=fit_X (ps.drop (j+1)) fun x hx=>hok.gaps x (List.mem_of_mem_drop hx)
 have hst:bkS ps j=bkE ps j+ps[j].1.length:=by unfold bkS;rw [List.getElem?_eq_getElem h];rfl
 obtain⟨line,cs,hb,hc⟩:=gp_btw hgp hd (bk_le hS j) (bk_ink _ hm)
 have hq:=tx_app hd
 rw [←hst] at hb hq
 refine⟨line,cs,nxt_12c hg hb (by rw [hq];exact bk_tok hfit _ hm),?_,by omega⟩
 unfold tkOf
 rw [tx_piece hq,bk_next h]
theorem bk_fin (hS:S.data.toList=bkX ps) {j:Nat} (h:j=ps.length) {g:Int} (hg:g=1∨g=2):
  nxt S (bkE ps j) g= .fine 0 (bkS ps j) 0 false []∧tkOf S 0 (bkS ps j) 0 false=⟨0,⟨#[]⟩,bkS ps j,bkE ps j,false⟩:=by
 subst h
 have hd:=bk_drop hS ps.length
 rw [List.drop_length,bkX] at hd
 have hst:bkS ps ps.length=bkE ps ps.length:=by unfold bkS;rw [List.getElem?_eq_none (Nat.le_refl _)];rfl
 rw [hst]
 obtain⟨_,_,q,n,h1,h2⟩:=sees_end hg hd (bk_le hS _)
 rw [Int.toNat_natCast] at h1
 refine⟨nxt_12c hg (btw_stop _ hd (bk_le hS _) ⟨rfl,fun p=>by unfold cmKind;rw [if_neg (by decide),if_neg (by decide),if_neg (by simp [Lib.hasPrefix])]⟩) (by rw [hd];rfl),?_⟩
 unfold tkOf
 rw [show S.extract (bkE ps ps.length) (bkE ps ps.length+0)=⟨#[]⟩ from tx_piece (a:= []) (l:= []) hd]
 rfl
theorem bk_lt (hok:BkOk ps) {i j:Nat} (hij:i<j) (hj:j≤ps.length):bkS ps i<bkS ps j:=by
 have hne: ∀x ∈ bkT,0<x.2.length:=by decide
 have step: ∀k,k<ps.length→bkS ps k<bkS ps (k+1):=by
  intro k hk
  have h1:=bk_next hk
  have h2:=hne _ (show ps[k].2 ∈ bkT by rw [←hok.toks];exact List.mem_map_of_mem (List.getElem_mem hk))
  have h3:bkE ps (k+1)≤bkS ps (k+1):=Nat.le_add_right _ _
  omega
 induction j with
 |zero=>omega
 |succ k ih=>
  have h1:=step k (by omega)
  by_cases h:i<k
  ·have:=ih h (by omega);omega
  ·have:i=k:=by omega
   subst this;exact h1
theorem bk_pos (hok:BkOk ps) {j:Nat} (hj:j≤ps.length):0<bkS ps j:=by
 have hl:ps.length=22:=by rw [←List.length_map (f:=(·.2)),hok.toks];rfl
 have hg: ∀g ∈ gapRow,0<g.length:=by decide
 have h0:0<bkS ps 0:=by
  unfold bkS
  rw [List.getElem?_eq_getElem (by omega)]
  have:=hg _ (hok.gaps _ (List.getElem_mem (show 0<ps.length by omega)))
  simp only [Option.map_some,Option.getD_some]
  omega
 by_cases h:j=0
 ·subst h;exact h0
 ·have:=bk_lt hok (show 0<j by omega) hj;omega
end
def bkA (S S':ByteArray) (ps ps':List (List UInt8 × (Int × List UInt8))):Al where
 s:=S
 s':=S'
 P:=fun i i'=> ∃j:Nat,j≤22∧i=(bkE ps j:Nat)∧i'=(bkE ps' j:Nat)
 S:=fun i i'=>(i=0∧i'=0)∨∃j:Nat,j≤22∧i=(bkS ps j:Nat)∧i'=(bkS ps' j:Nat)
theorem bkA_ok {S S':ByteArray} {ps ps':List (List UInt8 × (Int × List UInt8))} (hS:S.data.toList=bkX ps) (hS':S'.data.toList=bkX ps') (hok:BkOk ps) (hok':BkOk ps') (hz:S'.size≤1048576):(bkA S S' ps ps').Ok:=by
 have hl:ps.length=22:=by rw [←List.length_map (f:=(·.2)),hok.toks];rfl
 have hl':ps'.length=22:=by rw [←List.length_map (f:=(·.2)),hok'.toks];rfl
 have hle: ∀j,j≤22→bkS ps j≤S.size∧bkS ps' j≤S'.size:=by
  intro j hj
  by_cases h:j=22
  ·have h1:=(bk_fin hS (j:=j) (by omega) (.inl rfl)).2
   have h2:=(bk_fin hS' (j:=j) (by omega) (.inl rfl)).2
   have e1:bkS ps j=bkE ps j:=by unfold bkS;rw [List.getElem?_eq_none (by omega)];rfl
   have e2:bkS ps' j=bkE ps' j:=by unfold bkS;rw [List.getElem?_eq_none (by omega)];rfl
   rw [e1,e2]
   exact⟨bk_le hS _,bk_le hS' _⟩
  ·have h1:=bk_next (ps:=ps) (j:=j) (by omega)
   have h2:=bk_next (ps:=ps') (j:=j) (by omega)
   have:=bk_le hS (j+1)
   have:=bk_le hS' (j+1)
   omega
 refine⟨hz,⟨0,by decide,rfl,rfl⟩,.inl ⟨rfl,rfl⟩,?_,?_,?_,?_⟩
 ·rintro i i' ⟨j,hj,rfl,rfl⟩
  have:=bk_le hS j
  have:=bk_le hS' j
  show(0:Int)≤_∧_≤(S.size:Int)∧(0:Int)≤_∧_≤(S'.size:Int)
  omega
 ·rintro i i' (⟨rfl,rfl⟩|⟨j,hj,rfl,rfl⟩)
  ·show(0:Int)≤0∧(0:Int)≤0∧(0:Int)≤(S'.size:Int)
   omega
  ·have:=(hle j hj).2
   show(0:Int)≤_∧(0:Int)≤_∧_≤(S'.size:Int)
   omega
 ·rintro a a' b b' (⟨rfl,rfl⟩|⟨i,hi,rfl,rfl⟩) (⟨rfl,rfl⟩|⟨j,hj,rfl,rfl⟩)
  ·exact Iff.rfl
  ·have:=bk_pos hok (j:=j) (by omega)
   have:=bk_pos hok' (j:=j) (by omega)
   omega
  ·have:=bk_pos hok (j:=i) (by omega)
   have:=bk_pos hok' (j:=i) (by omega)
   omega
  ·by_cases h:i=j
   ·subst h;exact⟨fun _=>rfl,fun _=>rfl⟩
   ·rcases Nat.lt_or_gt_of_ne h with h|h
    ·have:=bk_lt hok h (by omega)
     have:=bk_lt hok' h (by omega)
     omega
    ·have:=bk_lt hok h (by omega)
     have:=bk_lt hok' h (by omega)
     omega
 ·rintro i i' g ⟨j,hj,rfl,rfl⟩ hg
  rw [Int.toNat_natCast,Int.toNat_natCast]
  by_cases h:j=22
  ·obtain⟨h1,h2⟩:=bk_fin hS (j:=j) (by omega) hg
   obtain⟨h3,h4⟩:=bk_fin hS' (j:=j) (by omega) hg
   refine⟨0,bkS ps j,0,false,[],bkS ps' j,0,false,[],h1,h3,?_,?_⟩
   ·show TkR _ (tkOf S _ _ _ _) (tkOf S' _ _ _ _)
    rw [h2,h4]
    exact⟨rfl,rfl,.inr ⟨j,hj,rfl,rfl⟩,⟨j,hj,rfl,rfl⟩,rfl⟩
   ·have:bkE ps' j≤bkS ps' j:=Nat.le_add_right _ _
    simp only [List.length_nil]
    omega
  ·obtain⟨l1,c1,h1,h2,h3⟩:=bk_see hS hok (j:=j) (by omega) hg
   obtain⟨l2,c2,h4,h5,h6⟩:=bk_see hS' hok' (j:=j) (by omega) hg
   have e1:(ps[j]'(by omega)).2=bkT[j]'(by rw [←hok.toks,List.length_map];omega):=by simp only [←hok.toks,List.getElem_map]
   have e2:(ps'[j]'(by omega)).2=bkT[j]'(by rw [←hok.toks,List.length_map];omega):=by simp only [←hok'.toks,List.getElem_map]
   have e:(ps'[j]'(by omega)).2=(ps[j]'(by omega)).2:=e2.trans e1.symm
   rw [e] at h4 h5
   refine⟨_,_,_,l1,c1,_,_,l2,c2,h1,h4,?_,?_⟩
   ·show TkR _ (tkOf S _ _ _ _) (tkOf S' _ _ _ _)
    rw [h2,h5]
    refine⟨rfl,rfl,.inr ⟨j,hj,rfl,rfl⟩,⟨j+1,by omega,rfl,rfl⟩,?_⟩
    have hm:(ps[j]'(by omega)).2 ∈ bkT:=by rw [e1];exact List.getElem_mem _
    have key: ∀x ∈ bkT,∀a b l,freeT ⟨x.1,⟨x.2.toArray⟩,a,b,l⟩=true:=by
     intro x hx a b l
     revert x
     show∀x ∈ bkT,freeT ⟨x.1,⟨x.2.toArray⟩,0,0,false⟩=true
     decide
    exact key _ hm _ _ _
   ·omega
end
section
open Go.RowKit
theorem same_self (a:Nd):sameNd a a=true:=by
 induction a using Nd.ind with
 |h n ih=>exact(sameNd_iff n n).2 ⟨rfl,rfl,rfl,fun i h _=>ih _ (List.getElem_mem h)⟩
theorem zip_snoc {α β:Type} : ∀(gs:List α) (ts:List β) (g:α) (t:β),ts[gs.length]? =some t→(gs++ [g]).zip ts=gs.zip ts++ [(g,t)]
 | [],[],_,_,h=>by cases h
 | [],t0::ts,g,t,h=>by
  obtain rfl:t0=t:=Option.some.inj h
  rfl
 |_::_,[],_,_,h=>by cases h
 |a::gs,b::ts,g,t,h=>by
  show(a,b)::(gs++ [g]).zip ts=(a,b)::(gs.zip ts++ [(g,t)])
  rw [zip_snoc gs ts g t h]
def bkP (gs:List (List UInt8)):List (List UInt8 × (Int × List UInt8)):=gs.zip bkT
def bkRow:List (List UInt8):=bkT.map (·.2)
theorem bkRow_len: ∀o ∈ bkRow,o.length≤2:=by decide
theorem gapRow_len: ∀o ∈ gapRow,o.length≤7:=by decide
theorem bkP_next (gs:List (List UInt8)) (g:List UInt8) {j:Nat} (hj:gs.length=j) (h:j<bkRow.length):bkX (bkP (gs++ [g]))=bkX (bkP gs)++(g++bkRow[j]):=by
 subst hj
 have hl:gs.length<bkT.length:=h
 unfold bkP
 rw [zip_snoc gs bkT g bkT[gs.length] (List.getElem?_eq_getElem hl),bkX_app]
 show bkX _++(g++(bkT[gs.length].2++ []))=_
 rw [List.append_nil]
 have e:bkT[gs.length].2=bkRow[gs.length]:=by simp [bkRow]
 exact congrArg (fun y=>bkX (gs.zip bkT)++(g++y)) e
theorem bkP_ok {gs:List (List UInt8)} (hl:gs.length=22) (hg: ∀g ∈ gs,g ∈ gapRow):BkOk (bkP gs):=by
 refine⟨?_,fun x hx=>hg _ (List.of_mem_zip hx).1⟩
 unfold bkP
 exact List.map_snd_zip (by rw [hl];decide)
def bkS0:ByteArray:=⟨(bkX (bkP (List.replicate 22 [32]))).toArray⟩
def okQ (s:ByteArray) (F:Nat):Bool:=match exprQ s false F with
 | .ok n _=>decide (ndSize n≤8000)
 |_=>false
set_option maxRecDepth 100000 in
theorem bk_read:okQ bkS0 60=true:=by decide+kernel
theorem bk_both {S T:ByteArray} {gs:List (List UInt8)} (hl:gs.length=22) (hg: ∀g ∈ gs,g ∈ gapRow) (hS:S.data.toList=bkX (bkP (List.replicate 22 [32]))) (hT:T.data.toList=bkX (bkP gs)) (hz:T.size≤1048576):
  ∃n q n' q',exprQ S false 60= .ok n q∧exprQ T false 60= .ok n' q'∧ndSize n≤8000∧ndSize n'≤8000∧bareT n=bareT n':=by
 have e:S=bkS0:=by
  unfold bkS0
  rw [←hS]
 have h:=bk_read
 rw [←e] at h
 unfold okQ at h
 cases hx:exprQ S false 60 with
 |out=>rw [hx] at h;cases h
 |bad c i=>rw [hx] at h;cases h
 |ok n q=>
  rw [hx] at h
  have hn:ndSize n≤8000:=of_decide_eq_true h
  have hA:=bkA_ok hS hT (bkP_ok (gs:=List.replicate 22 [32]) (by decide) (by intro g hg;rw [List.eq_of_mem_replicate hg];decide)) (bkP_ok hl hg) hz
  obtain⟨n',q',h1,h2⟩:=expr_sim hA (m:=false) (f:=60) hx
  have hn':ndSize n'≤8000:=by rw [ndR_size _ _ h2];exact hn
  exact⟨n,q,n',q',rfl,h1,hn,hn',by rw [bareT_of hn,bareT_of hn',ndR_bare _ _ h2]⟩
structure BSt (j:Nat) (gs:List (List UInt8)) (S T:ByteArray):Prop where
 len:gs.length=j
 mem: ∀g ∈ gs,g ∈ gapRow
 s:S.data.toList=bkX (bkP (List.replicate j [32]))
 t:T.data.toList=bkX (bkP gs)
 ss:S.size≤3*j
 ts:T.size≤9*j
theorem BSt.next {j:Nat} {gs:List (List UInt8)} {S T X Y:ByteArray} {g:List UInt8} (h:BSt j gs S T) (hj:j<bkRow.length) (hg:g ∈ gapRow) (hX:X.data.toList=S.data.toList++32::bkRow[j]) (hY:Y.data.toList=T.data.toList++(g++bkRow[j])):BSt (j+1) (gs++ [g]) X Y:=by
 have h1:=bkRow_len _ (List.getElem_mem hj)
 have h2:=gapRow_len g hg
 have h3:S.data.toList.length=S.size:=Array.length_toList
 have h4:T.data.toList.length=T.size:=Array.length_toList
 have h5:=h.ss
 have h6:=h.ts
 refine⟨by rw [List.length_append,h.len];rfl,?_,?_,?_,?_,?_⟩
 ·intro x hx
  rcases List.mem_append.1 hx with hx|hx
  ·exact h.mem x hx
  ·rw [List.mem_singleton.1 hx];exact hg
 ·rw [hX,h.s,List.replicate_succ',bkP_next _ _ (List.length_replicate) hj]
  rfl
 ·rw [hY,h.t,bkP_next _ _ h.len hj]
 ·have:=ba_size hX
  rw [List.length_append,h3] at this
  simp at this⊢
  omega
 ·have:=ba_size hY
  rw [List.length_append,h4] at this
  simp at this⊢
  omega
set_option maxRecDepth 100000 in
set_option maxHeartbeats 16000000 in
theorem blanks_any (ao:Option Addr) (len cap:Nat) (w:World) (hc:IntsArg w ao len) (hl:len≤33554432) (hx:Lx w):
  Calls Tryz.prog 6 #[.slice ao len cap] w fun e w'=>e= .returned (.bool true)∧Below w.heap.size w w':=by
 have HC:=Lib.hid hc
 have HX:=Lib.hid hx
 clear hc hx
 go_enter Tryz.func6,Tryz.ntmps6
 go_wp2_with fail
 refine(awake_any w HX.out).mono ?_
 rintro e w1 ⟨rfl,hb1⟩
 go_upto_region 6 with fail
 have hr1:StrS w1.heap.size bkRow (w1.alloc (.cells #[.string ⟨#[97]⟩,.string ⟨#[43]⟩,.string ⟨#[98]⟩,.string ⟨#[42]⟩,.string ⟨#[40]⟩,.string ⟨#[99]⟩,.string ⟨#[44]⟩,.string ⟨#[100]⟩,.string ⟨#[41]⟩,.string ⟨#[38,38]⟩,.string ⟨#[102]⟩,.string ⟨#[91]⟩,.string ⟨#[101]⟩,.string ⟨#[93]⟩,.string ⟨#[63]⟩,.string ⟨#[120]⟩,.string ⟨#[58]⟩,.string ⟨#[121]⟩,.string ⟨#[44]⟩,.string ⟨#[119]⟩,.string ⟨#[61]⟩,.string ⟨#[122]⟩] 9)):=StrS.new w1 bkRow 9
 have hr2:StrS (w1.alloc (.cells #[.string ⟨#[97]⟩,.string ⟨#[43]⟩,.string ⟨#[98]⟩,.string ⟨#[42]⟩,.string ⟨#[40]⟩,.string ⟨#[99]⟩,.string ⟨#[44]⟩,.string ⟨#[100]⟩,.string ⟨#[41]⟩,.string ⟨#[38,38]⟩,.string ⟨#[102]⟩,.string ⟨#[91]⟩,.string ⟨#[101]⟩,.string ⟨#[93]⟩,.string ⟨#[63]⟩,.string ⟨#[120]⟩,.string ⟨#[58]⟩,.string ⟨#[121]⟩,.string ⟨#[44]⟩,.string ⟨#[119]⟩,.string ⟨#[61]⟩,.string ⟨#[122]⟩] 9)).heap.size gapRow ((w1.alloc (.cells #[.string ⟨#[97]⟩,.string ⟨#[43]⟩,.string ⟨#[98]⟩,.string ⟨#[42]⟩,.string ⟨#[40]⟩,.string ⟨#[99]⟩,.string ⟨#[44]⟩,.string ⟨#[100]⟩,.string ⟨#[41]⟩,.string ⟨#[38,38]⟩,.string ⟨#[102]⟩,.string ⟨#[91]⟩,.string ⟨#[101]⟩,.string ⟨#[93]⟩,.string ⟨#[63]⟩,.string ⟨#[120]⟩,.string ⟨#[58]⟩,.string ⟨#[121]⟩,.string ⟨#[44]⟩,.string ⟨#[119]⟩,.string ⟨#[61]⟩,.string ⟨#[122]⟩] 9)).alloc (.cells #[.string ⟨#[32]⟩,.string ⟨#[10]⟩,.string ⟨#[47,42,32,99,32,42,47]⟩,.string ⟨#[47,47,32,100,10]⟩,.string ⟨#[9,13,10]⟩,.string ⟨#[32,47,42,10,42,47,32]⟩] 9)):=StrS.new _ gapRow 9
 have hba:=alloc_bel (w1.alloc (.cells #[.string ⟨#[97]⟩,.string ⟨#[43]⟩,.string ⟨#[98]⟩,.string ⟨#[42]⟩,.string ⟨#[40]⟩,.string ⟨#[99]⟩,.string ⟨#[44]⟩,.string ⟨#[100]⟩,.string ⟨#[41]⟩,.string ⟨#[38,38]⟩,.string ⟨#[102]⟩,.string ⟨#[91]⟩,.string ⟨#[101]⟩,.string ⟨#[93]⟩,.string ⟨#[63]⟩,.string ⟨#[120]⟩,.string ⟨#[58]⟩,.string ⟨#[121]⟩,.string ⟨#[44]⟩,.string ⟨#[119]⟩,.string ⟨#[61]⟩,.string ⟨#[122]⟩] 9)) (.cells #[.string ⟨#[32]⟩,.string ⟨#[10]⟩,.string ⟨#[47,42,32,99,32,42,47]⟩,.string ⟨#[47,47,32,100,10]⟩,.string ⟨#[9,13,10]⟩,.string ⟨#[32,47,42,10,42,47,32]⟩] 9)
 have hb2:Below w.heap.size w ((w1.alloc (.cells #[.string ⟨#[97]⟩,.string ⟨#[43]⟩,.string ⟨#[98]⟩,.string ⟨#[42]⟩,.string ⟨#[40]⟩,.string ⟨#[99]⟩,.string ⟨#[44]⟩,.string ⟨#[100]⟩,.string ⟨#[41]⟩,.string ⟨#[38,38]⟩,.string ⟨#[102]⟩,.string ⟨#[91]⟩,.string ⟨#[101]⟩,.string ⟨#[93]⟩,.string ⟨#[63]⟩,.string ⟨#[120]⟩,.string ⟨#[58]⟩,.string ⟨#[121]⟩,.string ⟨#[44]⟩,.string ⟨#[119]⟩,.string ⟨#[61]⟩,.string ⟨#[122]⟩] 9)).alloc (.cells #[.string ⟨#[32]⟩,.string ⟨#[10]⟩,.string ⟨#[47,42,32,99,32,42,47]⟩,.string ⟨#[47,47,32,100,10]⟩,.string ⟨#[9,13,10]⟩,.string ⟨#[32,47,42,10,42,47,32]⟩] 9)):=bel_next (hb1.alloc hb1.size _) hba
 have HR1:=Lib.hid (hr1.bel hba)
 have HR2:=Lib.hid hr2
 have HB:=Lib.hid hb2
 have eg:(w1.alloc (.cells #[.string ⟨#[97]⟩,.string ⟨#[43]⟩,.string ⟨#[98]⟩,.string ⟨#[42]⟩,.string ⟨#[40]⟩,.string ⟨#[99]⟩,.string ⟨#[44]⟩,.string ⟨#[100]⟩,.string ⟨#[41]⟩,.string ⟨#[38,38]⟩,.string ⟨#[102]⟩,.string ⟨#[91]⟩,.string ⟨#[101]⟩,.string ⟨#[93]⟩,.string ⟨#[63]⟩,.string ⟨#[120]⟩,.string ⟨#[58]⟩,.string ⟨#[121]⟩,.string ⟨#[44]⟩,.string ⟨#[119]⟩,.string ⟨#[61]⟩,.string ⟨#[122]⟩] 9)).heap.size=w1.heap.size+1:=World.size_alloc _ _
 rw [eg] at HR2
 clear hr1 hr2 hba hb2 hb1 eg
 generalize (World.alloc (World.alloc w1 _) _)=w2 at*
 generalize w1.heap.size=g1 at*
 go_wp2_with fail
 go_loopw [4,5,7,8] (fun sv tv i _ wr=> ∃(j:Nat) (gs:List (List UInt8)) (S T:ByteArray),j≤22∧i= .int .i64 j∧sv= .string S∧tv= .string T∧BSt j gs S T∧wr=w2) (fun _ _ i _ _=>22 - (intOf i).toNat)
 case atStart=>exact⟨0,[],⟨#[]⟩,⟨#[]⟩,by decide,rfl,rfl,rfl,⟨rfl,fun _ h=>(by cases h),rfl,rfl,by decide,by decide⟩,rfl⟩
 case round=>
  obtain⟨j,gs,S,T,hj,rfl,rfl,rfl,hst,rfl⟩:=hrel
  have HST:=Lib.hid hst
  have hss:=hst.ss
  have hts:=hst.ts
  clear hst
  by_cases hlt:j<22
  ·have hjl:j<bkRow.length:=hlt
   obtain⟨x,hx⟩: ∃x,bkRow[j]'hjl=x:=⟨_,rfl⟩
   have cx:=HR1.out.2 j hjl
   rw [hx] at cx
   have hxl:=bkRow_len x (hx▸List.getElem_mem _)
   obtain⟨t,ht⟩: ∃t:ByteArray,(⟨x.toArray⟩:ByteArray)=t:=⟨_,rfl⟩
   rw [ht] at cx
   have htl:t.data.toList=x:=by rw [←ht]
   have hts2:t.size≤2:=by rw [ba_size htl];exact hxl
   have HTL:=Lib.hid (htl.trans hx.symm)
   have hj1:(j:Int)<22:=by omega
   clear hx hxl ht htl
   by_cases h0:len=0
   ·subst h0
    go_wp2_with fail
    go_roundw
    case rel=>exact⟨j+1,gs++ [[32]],_,_,hlt,by go_num,rfl,rfl,HST.out.next hjl (by decide) (by simp [ByteArray.data_append,HTL.out]) (by simp [ByteArray.data_append,HTL.out]),trivial⟩
    case measure=>simp [intOf];omega
   ·have hm:j % len<len:=Nat.mod_lt _ (by omega)
    obtain⟨b,off,rfl,hb,z,hz⟩:=HC.out (j % len) hm
    rw [←HB.out.cell (p:=⟨b,off+j % len,none⟩) hb] at hz
    obtain⟨a,ha,ha2⟩:=pickN z 6 (by decide)
    replace ha:(IntKind.u64.wrap z).tmod 6=(a:Int):=ha
    obtain⟨y,hy⟩: ∃y,gapRow[a]'ha2=y:=⟨_,rfl⟩
    have hym:y ∈ gapRow:=hy▸List.getElem_mem _
    have cy:=HR2.out.2 a ha2
    rw [hy] at cy
    have hyl:=gapRow_len y hym
    obtain⟨g,hg⟩: ∃g:ByteArray,(⟨y.toArray⟩:ByteArray)=g:=⟨_,rfl⟩
    rw [hg] at cy
    have hgl:g.data.toList=y:=by rw [←hg]
    have hgs:g.size≤7:=by rw [ba_size hgl];exact hyl
    have HGL:=Lib.hid hgl
    have HYM:=Lib.hid hym
    have na:(0:Int)≤(a:Int):=by omega
    have ma:(a:Int)<6:=by omega
    have hmod:((j:Int)).tmod (len:Int)=((j % len:Nat):Int):=rfl
    have hl0:(0:Int)<(len:Int):=by omega
    have hl1:((len:Int)==0)=false:=beq_eq_false_iff_ne.2 (by omega)
    have hn1:(0:Int)≤((j % len:Nat):Int):=by omega
    have hn2:((j % len:Nat):Int)<(len:Int):=by omega
    have hw1:IntKind.i64.wrap ((j % len:Nat):Int)=((j % len:Nat):Int):=by rw [IntKind.wrap_i64];omega
    generalize j % len=r at*
    clear hy hyl hg hgl hym hm h0
    go_upto_region 12 with fail
    clear cy hz
    go_wp2_with fail
    go_roundw
    case rel=>exact⟨j+1,gs++ [y],_,_,hlt,by go_num,rfl,rfl,HST.out.next hjl HYM.out (by simp [ByteArray.data_append,HTL.out]) (by simp [ByteArray.data_append,HTL.out,HGL.out]),trivial⟩
    case measure=>simp [intOf];omega
  ·obtain rfl:j=22:=by omega
   obtain⟨n,q,n',q',e1,e2,z1,z2,hbr⟩:=bk_both HST.out.len HST.out.mem HST.out.s HST.out.t (by omega)
   have hzA:ndSize (bareT n)≤4194304:=by rw [bareT_of z1];exact Nat.le_trans (bare_size n) (by omega)
   have HO1:=Lib.hid fun(W:World) (h:Below wr.heap.size wr W)=>of_any 60 (by decide) (by omega) e1 (by omega) W (HX.out.bel (bel_next HB.out h))
   have HO2:=Lib.hid fun(W:World) (h:Below wr.heap.size wr W)=>of_any 60 (by decide) (by omega) e2 (by omega) W (HX.out.bel (bel_next HB.out h))
   rw [←hbr] at HO2
   clear e1 e2 z1 z2 hbr
   generalize bareT n=A at*
   go_wp2_with fail
   refine(HO1.out _ (Below.refl _ _)).mono ?_
   rintro e w5 ⟨u,rfl,hu,hb5⟩
   obtain⟨b4,cap4,rfl,hc4,hr4⟩:=hu.v
   have HC4:=Lib.hid hc4
   have HR4:=Lib.hid hr4
   clear hu hc4 hr4
   unfold ndCells at*
   go_upto_region 15 with fail
   have hal5:=alloc_bel w5 (.cells #[.int .i64 A.kind,.string A.text,.slice b4 A.kids.length cap4,.int .i64 A.from',.int .i64 A.till] 28)
   have hq5:NdBoxV (w5.alloc (.cells #[.int .i64 A.kind,.string A.text,.slice b4 A.kids.length cap4,.int .i64 A.from',.int .i64 A.till] 28)) w5.heap.size A.kind A.text (.slice b4 A.kids.length cap4) A.from' A.till:=box_new w5 A b4 cap4
   generalize World.alloc w5 _=w6 at*
   have hb6:=bel_next hb5 hal5
   go_wp2_with fail
   refine(HO2.out _ hb6).mono ?_
   rintro e w7 ⟨u2,rfl,hu2,hb7⟩
   obtain⟨b8,cap8,rfl,hc8,hr8⟩:=hu2.v
   have HC8:=Lib.hid hc8
   have HR8:=Lib.hid hr8
   clear hu2 hc8 hr8
   unfold ndCells at*
   go_upto_region 16 with fail
   have hal7:=alloc_bel w7 (.cells #[.int .i64 A.kind,.string A.text,.slice b8 A.kids.length cap8,.int .i64 A.from',.int .i64 A.till] 28)
   have hq7:NdBoxV (w7.alloc (.cells #[.int .i64 A.kind,.string A.text,.slice b8 A.kids.length cap8,.int .i64 A.from',.int .i64 A.till] 28)) w7.heap.size A.kind A.text (.slice b8 A.kids.length cap8) A.from' A.till:=box_new w7 A b8 cap8
   generalize World.alloc w7 _=w8 at*
   have hb8:=bel_next (bel_next hb6 hb7) hal7
   have hq8:=(hq5.bel hb7).bel hal7
   have s5:=hal5.size
   have s7:=hb7.size
   have s8:=hal7.size
   have HB8:=Lib.hid (bel_next HB.out hb8)
   have HS:=Lib.hid (same_any A A _ _ w8 0 w8.heap.size (⟨b4,cap4,rfl,HC4.out,RowP_keep (Nat.zero_le _) (by omega) (fun k _ hk=>(bel_next (bel_next hal5 hb7) hal7).block k hk) HR4.out⟩) (⟨b8,cap8,rfl,HC8.out,RowP_keep (Nat.zero_le _) (by omega) (fun k _ hk=>hal7.block k hk) HR8.out⟩) (Nat.le_refl _) hzA)
   rw [same_self] at HS
   unfold ndCells at*
   obtain⟨x0,x1,x2,x3,x4,y0,y1,y2,y3,y4⟩:=NdBoxV.facts hq7
   obtain⟨p0,p1,p2,p3,p4,r0,r1,r2,r3,r4⟩:=NdBoxV.facts hq8
   clear hb5 hb6 hb7 hb8 hal5 hal7 hq5 hq7 hq8 HO1 HO2 HR1 HR2 HR4 HR8 HC4 HC8
   go_wp2_with (go_at_call 14;refine HS.out.mono ?_;rintro e w9 ⟨rfl,hb9⟩)
   go_ret
   exact⟨rfl,bel_next HB8.out hb9⟩
end
end Go.Proofs.YthihchocfcdagaaGreatDoor
