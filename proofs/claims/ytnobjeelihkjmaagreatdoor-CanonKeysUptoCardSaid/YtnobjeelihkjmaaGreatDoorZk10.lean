/- Steps (Pm Pn Pa). Conditions: as stated. -/
import Derived.Test.YtnobjeelihkjmaaGreatDoorZk08
import Derived.Test.YtnobjeelihkjmaaGreatDoorZk07
namespace Go.Proofs.YtnobjeelihkjmaaGreatDoor
section
open Go.RowKit
structure Only (X:Nat→Prop) (w w':World):Prop where
 os:w'.os=w.os
 tape:w'.tape=w.tape
 output:w'.output=w.output
 size:w.heap.size≤w'.heap.size
 block: ∀k,k<w.heap.size→¬X k→w'.heap[k]? =w.heap[k]?
theorem Only.refl (X:Nat→Prop) (w:World):Only X w w:=⟨rfl,rfl,rfl,Nat.le_refl _,fun _ _ _=>rfl⟩
theorem Only.trans {X:Nat→Prop} {a b c:World} (h:Only X a b) (k:Only X b c):Only X a c:=
 ⟨k.os.trans h.os,k.tape.trans h.tape,k.output.trans h.output,Nat.le_trans h.size k.size,fun i hi hn=>(k.block i (Nat.lt_of_lt_of_le hi h.size) hn).trans (h.block i hi hn)⟩
theorem Only.mono {X Y:Nat→Prop} {a b:World} (h:Only X a b) (hX: ∀k,X k→Y k):Only Y a b:=⟨h.os,h.tape,h.output,h.size,fun i hi hn=>h.block i hi (fun hx=>hn (hX i hx))⟩
theorem Only.drew {X:Nat→Prop} {a b:World} (h:Only X a b):Only X a b.drew:=⟨h.os,h.tape,h.output,h.size,h.block⟩
theorem Only.drewN {X:Nat→Prop} {a b:World} (h:Only X a b) (n:Nat):Only X a (b.drewN n):=⟨h.os,h.tape,h.output,h.size,h.block⟩
theorem Only.alloc {X:Nat→Prop} {a b:World} (h:Only X a b) (o:Obj):Only X a (b.alloc o):=
 ⟨h.os,h.tape,h.output,by rw [World.size_alloc];exact Nat.le_succ_of_le h.size,fun i hi hn=>(Below.heap_alloc b o i (Nat.lt_of_lt_of_le hi h.size)).trans (h.block i hi hn)⟩
theorem Only.setCell {X:Nat→Prop} {a b:World} (h:Only X a b) {p:Addr} (hp:X p.block∨a.heap.size≤p.block) (u:Value):Only X a (b.setCell p u):=by
 have h2:=Below.setCell (B:=0) (a:=b) (w:=b) (Below.refl 0 b) (p:=p) (Nat.zero_le _) u
 refine⟨h2.os.trans h.os,h2.tape.trans h.tape,h2.output.trans h.output,Nat.le_trans h.size h2.size,fun i hi hn=>(Below.heap_setCell b p u i ?_).trans (h.block i hi hn)⟩
 rintro rfl
 rcases hp with hp|hp
 ·exact hn hp
 ·omega
theorem Only.below {X:Nat→Prop} {a b c:World} (h:Only X a b) (hb:Below b.heap.size b c):Only X a c:=
 ⟨hb.os.trans h.os,hb.tape.trans h.tape,hb.output.trans h.output,Nat.le_trans h.size hb.size,fun i hi hn=>(hb.block i (Nat.lt_of_lt_of_le hi h.size)).trans (h.block i hi hn)⟩
theorem Only.of_below {X:Nat→Prop} {a b:World} (hb:Below a.heap.size a b):Only X a b:=(Only.refl X a).below hb
theorem Only.cell {X:Nat→Prop} {a b:World} (h:Only X a b) {g o:Nat} (hg:g<a.heap.size) (hn: ¬X g):b.cell? ⟨g,o,none⟩=a.cell? ⟨g,o,none⟩:=World.cell?_of_block (h.block g hg hn)
mutual
def NdS (w:World) (S:Nat→Prop):Nd→Nat→Nat→Prop
 | .mk k t ks f u,g,o=> ∃b cap,S g∧w.cell? ⟨g,o,none⟩=some (.int .i64 k)∧w.cell? ⟨g,o+1,none⟩=some (.string t)∧
   w.cell? ⟨g,o+2,none⟩=some (.slice b ks.length cap)∧w.cell? ⟨g,o+3,none⟩=some (.int .i64 f)∧w.cell? ⟨g,o+4,none⟩=some (.int .i64 u)∧ks.length≤cap∧RowS w S ks b 0
def RowS (w:World) (S:Nat→Prop):List Nd→Option Addr→Nat→Prop
 | [],_,_=>True
 |k::ks,a,i=>(∃g off,a=some ⟨g,off,none⟩∧NdS w S k g (off+i*5))∧RowS w S ks a (i+1)
end
theorem aq2 (w:World) (S:Nat→Prop) (n:Nd) (g o:Nat):NdS w S n g o= ∃b cap,S g∧w.cell? ⟨g,o,none⟩=some (.int .i64 n.kind)∧w.cell? ⟨g,o+1,none⟩=some (.string n.text)∧
   w.cell? ⟨g,o+2,none⟩=some (.slice b n.kids.length cap)∧w.cell? ⟨g,o+3,none⟩=some (.int .i64 n.from')∧w.cell? ⟨g,o+4,none⟩=some (.int .i64 n.till)∧n.kids.length≤cap∧RowS w S n.kids b 0:=by
 cases n
 rw [NdS]
 rfl
theorem ak4 {w:World} {S:Nat→Prop} {a:Option Addr} : ∀ {ks:List Nd} {i:Nat},RowS w S ks a i→∀j,(h:j<ks.length)→∃g off,a=some ⟨g,off,none⟩∧NdS w S ks[j] g (off+(i+j)*5)
 | [],_,_,j,h=>absurd h (by simp)
 |k::ks,i,hr,j,h=>by
  rw [RowS] at hr
  cases j with
  |zero=>exact hr.1
  |succ j=>
   have:=ak4 hr.2 j (by simpa using h)
   rw [show i+1+j=i+(j+1) by omega] at this
   exact this
theorem at3 {w:World} {S:Nat→Prop} {a:Option Addr} : ∀ {ks:List Nd} {i:Nat},(∀j,(h:j<ks.length)→∃g off,a=some ⟨g,off,none⟩∧NdS w S ks[j] g (off+(i+j)*5))→RowS w S ks a i
 | [],_,_=>by rw [RowS];trivial
 |k::ks,i,h=>by
  rw [RowS]
  refine⟨h 0 (by simp),at3 fun j hj=> ?_⟩
  have:=h (j+1) (by simpa using hj)
  rw [show i+1+j=i+(j+1) by omega]
  exact this
theorem au7 (w:World) (S:Nat→Prop) (a:Option Addr) (i:Nat):RowS w S [] a i:=by rw [RowS];trivial
theorem br2 {w w':World} {S S':Nat→Prop} (hS: ∀k,S k→S' k) (hk: ∀k,S k→w'.heap[k]? =w.heap[k]?) (n:Nd): ∀g o,NdS w S n g o→NdS w' S' n g o:=by
 induction n using Nd.ind with
 |h n ih=>
  intro g o h
  rw [aq2] at h⊢
  obtain⟨b,cap,h2,c0,c1,c2,c3,c4,hc,hr⟩:=h
  have hcell: ∀o,w'.cell? ⟨g,o,none⟩=w.cell? ⟨g,o,none⟩:=fun o=>World.cell?_of_block (hk g h2)
  refine⟨b,cap,hS g h2,?_,?_,?_,?_,?_,hc,at3 fun j hj=> ?_⟩
  ·rw [hcell];exact c0
  ·rw [hcell];exact c1
  ·rw [hcell];exact c2
  ·rw [hcell];exact c3
  ·rw [hcell];exact c4
  ·obtain⟨g',off,ha,hn⟩:=ak4 hr j hj
   exact⟨g',off,ha,ih _ (List.getElem_mem hj) _ _ hn⟩
theorem ab2 {w w':World} {S S':Nat→Prop} (hS: ∀k,S k→S' k) (hk: ∀k,S k→w'.heap[k]? =w.heap[k]?) {ks:List Nd} {a:Option Addr} {i:Nat} (h:RowS w S ks a i):RowS w' S' ks a i:=
 at3 fun j hj=>by
  obtain⟨g,off,ha,hn⟩:=ak4 h j hj
  exact⟨g,off,ha,br2 hS hk _ _ _ hn⟩
theorem NdS.ndc {w:World} {S:Nat→Prop} {B:Nat} (hS: ∀k,S k→k<B) (n:Nd): ∀g o,NdS w S n g o→NdC w 0 B n g o:=by
 induction n using Nd.ind with
 |h n ih=>
  intro g o h
  rw [aq2] at h
  rw [ai9]
  obtain⟨b,cap,h2,c0,c1,c2,c3,c4,hc,hr⟩:=h
  exact⟨b,cap,Nat.zero_le _,hS g h2,c0,c1,c2,c3,c4,hc,ao7 fun j hj=>by
   obtain⟨g',off,ha,hn⟩:=ak4 hr j hj
   exact⟨g',off,ha,ih _ (List.getElem_mem hj) _ _ hn⟩⟩
def IsS (w:World) (S:Nat→Prop) (n:Nd) (v:Value):Prop:= ∃a cap,v= .agg #[.int .i64 n.kind,.string n.text,.slice a n.kids.length cap,.int .i64 n.from',.int .i64 n.till]∧n.kids.length≤cap∧RowS w S n.kids a 0
theorem IsS.keep {w w':World} {S S':Nat→Prop} {n:Nd} {v:Value} (h:IsS w S n v) (hS: ∀k,S k→S' k) (hk: ∀k,S k→w'.heap[k]? =w.heap[k]?):IsS w' S' n v:=by
 obtain⟨a,cap,h1,h2,h3⟩:=h
 exact⟨a,cap,h1,h2,ab2 hS hk h3⟩
def Own (w:World) (b k:Nat):Prop:=k=b∨(∃o len cap,w.cell? ⟨b,9,none⟩=some (.slice (some ⟨k,o,none⟩) len cap))∨w.cell? ⟨b,14,none⟩=some (.map (some k))
theorem Own.same {w w':World} {b k:Nat} (h:w'.heap[b]? =w.heap[b]?):Own w' b k↔Own w b k:=by
 unfold Own
 rw [World.cell?_of_block (a:=⟨b,9,none⟩) h,World.cell?_of_block (a:=⟨b,14,none⟩) h]
structure PB (b:Nat) (X:Nat→Prop) (w w':World):Prop where
 only:Only (fun k=>Own w b k∨X k) w w'
 own: ∀k,Own w' b k→Own w b k∨w.heap.size≤k
theorem PB.refl (b:Nat) (X:Nat→Prop) (w:World):PB b X w w:=⟨Only.refl _ _,fun _ h=> .inl h⟩
theorem PB.mono {b:Nat} {X Y:Nat→Prop} {w w':World} (h:PB b X w w') (hX: ∀k,X k→Y k):PB b Y w w':=⟨h.only.mono fun k hk=>hk.imp id (hX k),h.own⟩
theorem PB.trans' {b:Nat} {X Y:Nat→Prop} {w1 w2 w3:World} (h:PB b X w1 w2) (k:PB b Y w2 w3) (hY: ∀i,Y i→X i∨w1.heap.size≤i):PB b X w1 w3:=
 ⟨⟨k.only.os.trans h.only.os,k.only.tape.trans h.only.tape,k.only.output.trans h.only.output,Nat.le_trans h.only.size k.only.size,fun i hi hn=>(k.only.block i (Nat.lt_of_lt_of_le hi h.only.size) (fun ho=>ho.elim (fun ho=>(h.own i ho).elim (fun h2=>hn (.inl h2)) (by omega)) (fun hy=>(hY i hy).elim (fun hx=>hn (.inr hx)) (by omega)))).trans (h.only.block i hi hn)⟩,
  fun i ho=>(k.own i ho).elim (fun h2=>h.own i h2) (fun h2=> .inr (Nat.le_trans h.only.size h2))⟩
theorem PB.trans {b:Nat} {X:Nat→Prop} {w1 w2 w3:World} (h:PB b X w1 w2) (k:PB b X w2 w3):PB b X w1 w3:=h.trans' k fun _ h=> .inl h
theorem PB.then {b:Nat} {X:Nat→Prop} {w1 w2 w3:World} (h:PB b X w1 w2) (k:PB b (fun _=>False) w2 w3):PB b X w1 w3:=h.trans' k fun _ h=>h.elim
theorem PB.only' {b:Nat} {X Y:Nat→Prop} {w1 w2 w3:World} (h:PB b X w1 w2) (ho:Only Y w2 w3) (hb:b<w2.heap.size) (hn: ¬Y b) (hY: ∀i,Y i→X i∨w1.heap.size≤i):PB b X w1 w3:=
 h.trans' (Y:=Y) ⟨ho.mono fun _ h=> .inr h,fun _ hk=> .inl ((Own.same (ho.block b hb hn)).1 hk)⟩ hY
theorem PB.drop {b:Nat} {X:Nat→Prop} {w w':World} (h:PB b X w w') (hX: ∀k,X k→w.heap.size≤k):PB b (fun _=>False) w w':=
 ⟨⟨h.only.os,h.only.tape,h.only.output,h.only.size,fun k hk hn=>h.only.block k hk fun ho=>ho.elim (fun h1=>hn (.inl h1)) (fun hx=>by have:=hX k hx;omega)⟩,h.own⟩
structure PE where
 s:ByteArray
 m:Bool
 b:Nat
 w0:World
structure PE.Ok (E:PE):Prop where
 hs:E.s.size≤16777216
 lx:Lx E.w0
 hb:E.w0.heap.size≤E.b
def ad8 (E:PE) (p:Ps) (va vc:Value) (mb:Nat):Array Value:=
 #[.string E.s,.int .i64 p.at',.int .i64 p.tok.kind,.string p.tok.text,.int .i64 p.tok.from',.int .i64 p.tok.till,.bool p.tok.line,va,.int .i64 p.goal,vc,.bool E.m,.int .i64 p.flags,.int .i64 p.nest,.int .i64 p.arrow,.map (some mb)]
def ComD (D:DataW Unit) (c:List (Int × Int)):Prop:=(∀k:Int,Maps.has D (.int .i64 k)=hasC c k)∧(Maps.size D=0↔c= [])
structure St (E:PE) (F:Nat→Prop) (w:World) (p:Ps):Prop where
 blk: ∃va vc mb D,w.heap[E.b]? =some (.cells (ad8 E p va vc mb) 61 (0,0))∧
  OwnC 0 w va p.ahead∧(∀g,va.ownBlock=some g→g<w.heap.size∧¬F g∧g≠E.b∧vc.ownBlock≠some g∧g≠mb)∧
  OwnC E.w0.heap.size w vc p.cms∧vc.ownBlock≠some E.b∧vc.ownBlock≠some mb∧
  mb≠E.b∧E.w0.heap.size≤mb∧w.ownsMap Tryz.prog 3 (plainElem Tryz.prog 3) mb p.commas.length D∧ComD D p.commas
 fo: ∀k,F k→E.w0.heap.size≤k∧k<w.heap.size∧¬Own w E.b k
 bel:Below E.w0.heap.size E.w0 w
 nst:0≤p.nest∧p.nest≤4000
end
section
open Go.RowKit
theorem ad0 {w w':World} {base size n:Nat} {e:TypeId} {v:Value} {xs:List Value} (h:w.ownsRow base e size v n xs) (hk: ∀g,v.ownBlock=some g→g<w.heap.size→w'.heap[g]? =w.heap[g]?):w'.ownsRow base e size v n xs:=by
 refine⟨h.1,?_⟩
 rcases h.2 with h2|⟨g,cap,cur,hv,hg,hc,r⟩
 ·exact .inl h2
 ·refine .inr ⟨g,cap,cur,hv,hg,(hk g (by rw [hv];rfl) ?_).trans hc,r⟩
  exact(Array.getElem?_eq_some_iff.1 hc).1
theorem be9 {w:World} {base base' size n:Nat} {e:TypeId} {v:Value} {xs:List Value} (h:w.ownsRow base e size v n xs) (hb:base'≤base):w.ownsRow base' e size v n xs:=bJ6 h hb
theorem aa5 {w:World} {base size n:Nat} {e:TypeId} {v:Value} {xs:List Value} (h:w.ownsRow base e size v n xs) {g:Nat} (hg:v.ownBlock=some g):g<w.heap.size∧base≤g:=by
 rcases h.2 with ⟨hv,_⟩|⟨g',cap,cur,hv,hb,hc,r⟩
 ·rw [hv] at hg;cases hg
 ·rw [hv] at hg
  have:g'=g:=by injection hg
  subst this
  exact⟨(Array.getElem?_eq_some_iff.1 hc).1,hb⟩
theorem am6 {w w':World} {K:TypeId} {R:Value→Option (DataW Unit × List MemPlace)} {b k:Nat} {D:DataW Unit} (h:w.ownsMap Tryz.prog K R b k D) (hk:w'.heap[b]? =w.heap[b]?):w'.ownsMap Tryz.prog K R b k D:=by
 obtain⟨es,clock,h1,h2⟩:=h
 exact⟨es,clock,hk.trans h1,h2⟩
theorem ah7 {w:World} {K:TypeId} {R:Value→Option (DataW Unit × List MemPlace)} {b k:Nat} {D:DataW Unit} (h:w.ownsMap Tryz.prog K R b k D):b<w.heap.size:=by
 obtain⟨es,clock,h1,h2⟩:=h
 exact(Array.getElem?_eq_some_iff.1 h1).1
def flt (c i:Int):List PanicEntry:= [{ v:= .iface 55 (.agg #[.int .i64 c,.int .i64 i]),recovered:=false }]
def Ans {α:Type} (E:PE) (F X:Nat→Prop) (w:World) (T:Res α) (A:α→Value→World→Prop) (e:Ending) (w':World):Prop:=match T with
 | .ok a q=> ∃v,e= .returned v∧A a v w'∧St E F w' q∧PB E.b X w w'
 | .bad c i=>e= .panicked (flt c i)∧PB E.b X w w'
 | .out=>True
section
variable {E:PE} {F G X:Nat→Prop} {w w':World} {p q:Ps}
theorem St.lt (h:St E F w p):E.b<w.heap.size:=by
 obtain⟨va,vc,mb,D,hb,_⟩:=h.blk
 exact(Array.getElem?_eq_some_iff.1 hb).1
theorem St.notF (h:St E F w p): ¬F E.b:=fun hf=>(h.fo _ hf).2.2 (.inl rfl)
structure StO (E:PE) (F:Nat→Prop) (w:World) (p:Ps) (va vc:Value) (mb:Nat) (D:DataW Unit):Prop where
 hb:w.heap[E.b]? =some (.cells (ad8 E p va vc mb) 61 (0,0))
 ah:OwnC 0 w va p.ahead
 ahF: ∀g,va.ownBlock=some g→g<w.heap.size∧¬F g∧g≠E.b∧vc.ownBlock≠some g∧g≠mb
 cm:OwnC E.w0.heap.size w vc p.cms
 cb:vc.ownBlock≠some E.b
 cmb:vc.ownBlock≠some mb
 mbb:mb≠E.b
 mb0:E.w0.heap.size≤mb
 map:w.ownsMap Tryz.prog 3 (plainElem Tryz.prog 3) mb p.commas.length D
 com:ComD D p.commas
 fo: ∀k,F k→E.w0.heap.size≤k∧k<w.heap.size∧k≠E.b∧vc.ownBlock≠some k∧k≠mb
 bel:Below E.w0.heap.size E.w0 w
 nst:0≤p.nest∧p.nest≤4000
theorem StO.own {va vc:Value} {mb:Nat} {D:DataW Unit} (h:StO E F w p va vc mb D) (k:Nat):Own w E.b k↔k=E.b∨vc.ownBlock=some k∨k=mb:=by
 unfold Own
 rw [cell_of_row w E.b 9 _ _ _ h.hb,cell_of_row w E.b 14 _ _ _ h.hb]
 constructor
 ·rintro(hk|⟨o,len,cap,hc⟩|hm)
  ·exact .inl hk
  ·have hv:vc= .slice (some ⟨k,o,none⟩) len cap:=by simpa [ad8] using hc
   exact .inr (.inl (by rw [hv];rfl))
  ·have hv:mb=k:=by simpa [ad8] using hm
   exact .inr (.inr hv.symm)
 ·rintro(hk|hc|hm)
  ·exact .inl hk
  ·rcases h.cm.2 with ⟨hv,_⟩|⟨g',cap,cur,hv,_⟩
   ·rw [hv] at hc;cases hc
   ·rw [hv] at hc
    have:g'=k:=by injection hc
    subst this
    exact .inr (.inl ⟨0,p.cms.length,cap,by simp [ad8,hv]⟩)
  ·exact .inr (.inr (by simp [ad8,hm]))
theorem St.open (h:St E F w p): ∃va vc mb D,StO E F w p va vc mb D:=by
 obtain⟨va,vc,mb,D,hb,h1,h2,h3,h4,h5,h6,h7,h8,h9⟩:=h.blk
 have key:StO E (fun _=>False) w p va vc mb D:=⟨hb,h1,fun g hg=>⟨(h2 g hg).1,fun hf=>hf,(h2 g hg).2.2⟩,h3,h4,h5,h6,h7,h8,h9,fun k hk=>hk.elim,h.bel,h.nst⟩
 refine⟨va,vc,mb,D,hb,h1,h2,h3,h4,h5,h6,h7,h8,h9,fun k hk=> ?_,h.bel,h.nst⟩
 obtain⟨h10,h11,h12⟩:=h.fo k hk
 rw [key.own k] at h12
 exact⟨h10,h11,fun e=>h12 (.inl e),fun e=>h12 (.inr (.inl e)),fun e=>h12 (.inr (.inr e))⟩
theorem StO.st {va vc:Value} {mb:Nat} {D:DataW Unit} (h:StO E F w p va vc mb D):St E F w p:=
 ⟨⟨va,vc,mb,D,h.hb,h.ah,h.ahF,h.cm,h.cb,h.cmb,h.mbb,h.mb0,h.map,h.com⟩,fun k hk=>⟨(h.fo k hk).1,(h.fo k hk).2.1,fun ho=>by
  obtain⟨_,_,h1,h2,h3⟩:=h.fo k hk
  rcases (h.own k).1 ho with e|e|e
  ·exact h1 e
  ·exact h2 e
  ·exact h3 e⟩,h.bel,h.nst⟩
theorem StO.only {va vc:Value} {mb:Nat} {D:DataW Unit} (h:StO E F w p va vc mb D) (ho:Only F w w'):StO E F w' p va vc mb D:=by
 have hlt:E.b<w.heap.size:=(Array.getElem?_eq_some_iff.1 h.hb).1
 have hs: ∀k,k<w.heap.size→k=E.b∨vc.ownBlock=some k∨k=mb→w'.heap[k]? =w.heap[k]? :=fun k hk hc=>ho.block k hk fun hf=>by
  obtain⟨_,_,h1,h2,h3⟩:=h.fo k hf
  rcases hc with e|e|e
  ·exact h1 e
  ·exact h2 e
  ·exact h3 e
 refine⟨(hs _ hlt (.inl rfl)).trans h.hb,ad0 h.ah fun g hg hl=>ho.block g hl (h.ahF g hg).2.1,fun g hg=>⟨Nat.lt_of_lt_of_le (h.ahF g hg).1 ho.size,(h.ahF g hg).2⟩,ad0 h.cm fun g hg hl=>hs g hl (.inr (.inl hg)),h.cb,h.cmb,h.mbb,h.mb0,am6 h.map (hs mb (ah7 h.map) (.inr (.inr rfl))),h.com,fun k hk=>⟨(h.fo k hk).1,Nat.lt_of_lt_of_le (h.fo k hk).2.1 ho.size,(h.fo k hk).2.2⟩,?_,h.nst⟩
 exact⟨ho.os.trans h.bel.os,ho.tape.trans h.bel.tape,ho.output.trans h.bel.output,Nat.le_trans h.bel.size ho.size,fun k hk=>(ho.block k (Nat.lt_of_lt_of_le hk h.bel.size) fun hf=>by have:=(h.fo k hf).1;omega).trans (h.bel.block k hk)⟩
theorem St.only (h:St E F w p) (ho:Only F w w'):St E F w' p:=by
 obtain⟨va,vc,mb,D,h⟩:=h.open
 exact(h.only ho).st
theorem St.weak (h:St E F w p) (hG: ∀k,G k→F k):St E G w p:=by
 obtain⟨va,vc,mb,D,h⟩:=h.open
 exact StO.st (va:=va) (vc:=vc) (mb:=mb) (D:=D) { h with ahF:=fun g hg=>⟨(h.ahF g hg).1,fun hf=>(h.ahF g hg).2.1 (hG g hf),(h.ahF g hg).2.2⟩,fo:=fun k hk=>h.fo k (hG k hk) }
theorem St.grow (h:St E F w p) (ho:Only F w w'):St E (fun k=>F k∨(w.heap.size≤k∧k<w'.heap.size)) w' p:=by
 obtain⟨va,vc,mb,D,h1⟩:=h.open
 obtain⟨va',vc',mb',D',h2⟩:=(h.only ho).open
 have hlt:E.b<w.heap.size:=(Array.getElem?_eq_some_iff.1 h1.hb).1
 have e:=(ho.block E.b hlt h.notF).trans h1.hb
 rw [h2.hb] at e
 have e2:ad8 E p va' vc' mb'=ad8 E p va vc mb:=by simpa using e
 have ea:va'=va:=by have:=congrArg (fun c:Array Value=>c[7]?) e2;simpa [ad8] using this
 have ec:vc'=vc:=by have:=congrArg (fun c:Array Value=>c[9]?) e2;simpa [ad8] using this
 have em:mb'=mb:=by have:=congrArg (fun c:Array Value=>c[14]?) e2;simpa [ad8] using this
 subst ea ec em
 refine StO.st (va:=va') (vc:=vc') (mb:=mb') (D:=D') { h2 with ahF:=fun g hg=>⟨(h2.ahF g hg).1,?_,(h2.ahF g hg).2.2⟩,fo:=fun k hk=> ?_ }
 ·rintro(hf|hf)
  ·exact(h2.ahF g hg).2.1 hf
  ·have:=(h1.ahF g hg).1
   omega
 ·rcases hk with hk|hk
  ·exact h2.fo k hk
  ·have hB:=h1.bel.size
   refine⟨by omega,hk.2,by omega,fun e=> ?_,fun e=> ?_⟩
   ·have:=(aa5 h1.cm e).1
    omega
   ·have:=ah7 h1.map
    omega
theorem St.cell (h:St E F w p) (j:Nat) (hj:j<15) (h7:j≠7) (h9:j≠9) (h14:j≠14):w.cell? ⟨E.b,j,none⟩=(ad8 E p undef undef 0)[j]? :=by
 obtain⟨va,vc,mb,D,hb,_⟩:=h.blk
 rw [cell_of_row w E.b j _ _ _ hb]
 unfold ad8
 have hj2:j=0∨j=1∨j=2∨j=3∨j=4∨j=5∨j=6∨j=8∨j=10∨j=11∨j=12∨j=13:=by omega
 rcases hj2 with rfl|rfl|rfl|rfl|rfl|rfl|rfl|rfl|rfl|rfl|rfl|rfl<;>rfl
theorem St.c_s (h:St E F w p):w.cell? ⟨E.b,0,none⟩=some (.string E.s):=h.cell 0 (by decide) (by decide) (by decide) (by decide)
theorem St.c_at (h:St E F w p):w.cell? ⟨E.b,1,none⟩=some (.int .i64 p.at'):=h.cell 1 (by decide) (by decide) (by decide) (by decide)
theorem St.c_kind (h:St E F w p):w.cell? ⟨E.b,2,none⟩=some (.int .i64 p.tok.kind):=h.cell 2 (by decide) (by decide) (by decide) (by decide)
theorem St.c_text (h:St E F w p):w.cell? ⟨E.b,3,none⟩=some (.string p.tok.text):=h.cell 3 (by decide) (by decide) (by decide) (by decide)
theorem St.c_from (h:St E F w p):w.cell? ⟨E.b,4,none⟩=some (.int .i64 p.tok.from'):=h.cell 4 (by decide) (by decide) (by decide) (by decide)
theorem St.c_till (h:St E F w p):w.cell? ⟨E.b,5,none⟩=some (.int .i64 p.tok.till):=h.cell 5 (by decide) (by decide) (by decide) (by decide)
theorem St.c_line (h:St E F w p):w.cell? ⟨E.b,6,none⟩=some (.bool p.tok.line):=h.cell 6 (by decide) (by decide) (by decide) (by decide)
theorem St.c_goal (h:St E F w p):w.cell? ⟨E.b,8,none⟩=some (.int .i64 p.goal):=h.cell 8 (by decide) (by decide) (by decide) (by decide)
theorem St.c_mod (h:St E F w p):w.cell? ⟨E.b,10,none⟩=some (.bool E.m):=h.cell 10 (by decide) (by decide) (by decide) (by decide)
theorem St.c_flags (h:St E F w p):w.cell? ⟨E.b,11,none⟩=some (.int .i64 p.flags):=h.cell 11 (by decide) (by decide) (by decide) (by decide)
theorem St.c_nest (h:St E F w p):w.cell? ⟨E.b,12,none⟩=some (.int .i64 p.nest):=h.cell 12 (by decide) (by decide) (by decide) (by decide)
theorem St.c_arrow (h:St E F w p):w.cell? ⟨E.b,13,none⟩=some (.int .i64 p.arrow):=h.cell 13 (by decide) (by decide) (by decide) (by decide)
theorem St.c_ahead (h:St E F w p): ∃v,w.cell? ⟨E.b,7,none⟩=some v:=by
 obtain⟨va,vc,mb,D,hb,_⟩:=h.blk
 exact⟨va,by rw [cell_of_row w E.b 7 _ _ _ hb];rfl⟩
theorem St.frozen (h:St E F w p) (j:Nat):w.frozen? ⟨E.b,j,none⟩=false:=by
 obtain⟨va,vc,mb,D,hb,_⟩:=h.blk
 exact frozen_of_row w E.b j _ _ hb
theorem StO.turn {va vc va':Value} {mb:Nat} {D:DataW Unit} (h:StO E F w p va vc mb D) (ho:Only (fun k=>k=E.b) w w') (hb:w'.heap[E.b]? =some (.cells (ad8 E q va' vc mb) 61 (0,0)))
  (ha:OwnC 0 w va' q.ahead) (haF: ∀g,va'.ownBlock=some g→g<w.heap.size∧¬F g∧g≠E.b∧vc.ownBlock≠some g∧g≠mb) (hc:q.cms=p.cms) (hm:q.commas=p.commas) (hn:0≤q.nest∧q.nest≤4000) (hE:E.w0.heap.size≤E.b):StO E F w' q va' vc mb D:=by
 have hlt:E.b<w.heap.size:=(Array.getElem?_eq_some_iff.1 h.hb).1
 refine⟨hb,ad0 ha fun g hg hl=>ho.block g hl (haF g hg).2.2.1,fun g hg=>⟨Nat.lt_of_lt_of_le (haF g hg).1 ho.size,(haF g hg).2⟩,hc▸ad0 h.cm fun g hg hl=>ho.block g hl fun e=>h.cb (e▸hg),h.cb,h.cmb,h.mbb,h.mb0,hm▸am6 h.map (ho.block mb (ah7 h.map) h.mbb),hm▸h.com,fun k hk=>⟨(h.fo k hk).1,Nat.lt_of_lt_of_le (h.fo k hk).2.1 ho.size,(h.fo k hk).2.2⟩,?_,hn⟩
 exact⟨ho.os.trans h.bel.os,ho.tape.trans h.bel.tape,ho.output.trans h.bel.output,Nat.le_trans h.bel.size ho.size,fun k hk=>(ho.block k (Nat.lt_of_lt_of_le hk h.bel.size) (by omega)).trans (h.bel.block k hk)⟩
theorem StO.pb {va vc va' vc':Value} {mb mb':Nat} {D D':DataW Unit} (h:StO E F w p va vc mb D) (h':StO E F w' q va' vc' mb' D') (ho:Only (fun k=>k=E.b∨vc.ownBlock=some k∨k=mb) w w') (hv: ∀k,vc'.ownBlock=some k→vc.ownBlock=some k∨w.heap.size≤k) (hm:mb'=mb):PB E.b X w w':=
 ⟨ho.mono fun k hk=> .inl ((h.own k).2 hk),fun k hk=>by
  rcases (h'.own k).1 hk with e|e|e
  ·exact .inl ((h.own k).2 (.inl e))
  ·exact(hv k e).imp (fun e=>(h.own k).2 (.inr (.inl e))) id
  ·exact .inl ((h.own k).2 (.inr (.inr (e.trans hm))))⟩
theorem St.set (hE:E.w0.heap.size≤E.b) (h:St E F w p) (j:Nat) (v:Value) (q:Ps) (hq: ∀va vc mb,(ad8 E p va vc mb).setIfInBounds j v=ad8 E q va vc mb) (ha:q.ahead=p.ahead) (hc:q.cms=p.cms) (hm:q.commas=p.commas) (hn:0≤q.nest∧q.nest≤4000):
  St E F (w.setCell ⟨E.b,j,none⟩ v) q∧PB E.b X w (w.setCell ⟨E.b,j,none⟩ v):=by
 obtain⟨va,vc,mb,D,h⟩:=h.open
 have ho:Only (fun k=>k=E.b) w (w.setCell ⟨E.b,j,none⟩ v):=Only.setCell (X:=fun k=>k=E.b) (Only.refl _ w) (p:=⟨E.b,j,none⟩) (.inl rfl) v
 have h2:StO E F (w.setCell ⟨E.b,j,none⟩ v) q va vc mb D:=h.turn ho (by rw [heap_setCell_same w E.b j _ _ v h.hb,hq]) (ha▸h.ah) h.ahF hc hm hn hE
 exact⟨h2.st,h.pb h2 (ho.mono fun _ hk=> .inl hk) (fun _ hk=> .inl hk) rfl⟩
theorem St.peeked (hE:E.w0.heap.size≤E.b) (h:St E F w p) {wc:World} (hb:Below w.heap.size w wc) (t:Tk) (cs:List Cm) (v:Value) (goal:Int) (ho:OwnC w.heap.size wc v cs):
  St E F (((((((wc.setCell ⟨E.b,2,none⟩ (.int .i64 t.kind)).setCell ⟨E.b,3,none⟩ (.string t.text)).setCell ⟨E.b,4,none⟩ (.int .i64 t.from')).setCell ⟨E.b,5,none⟩ (.int .i64 t.till)).setCell ⟨E.b,6,none⟩ (.bool t.line)).setCell ⟨E.b,7,none⟩ v).setCell ⟨E.b,8,none⟩ (.int .i64 goal)) { p with tok:=t,ahead:=cs,goal:=goal } ∧
  PB E.b X wc (((((((wc.setCell ⟨E.b,2,none⟩ (.int .i64 t.kind)).setCell ⟨E.b,3,none⟩ (.string t.text)).setCell ⟨E.b,4,none⟩ (.int .i64 t.from')).setCell ⟨E.b,5,none⟩ (.int .i64 t.till)).setCell ⟨E.b,6,none⟩ (.bool t.line)).setCell ⟨E.b,7,none⟩ v).setCell ⟨E.b,8,none⟩ (.int .i64 goal)):=by
 obtain⟨va,vc,mb,D,h0⟩:=h.open
 have h1:=h0.only (Only.of_below (X:=F) hb)
 have o1: ∀(a:World) (j:Nat) (u:Value),Only (fun k=>k=E.b) wc a→Only (fun k=>k=E.b) wc (a.setCell ⟨E.b,j,none⟩ u):=fun a j u ha=>ha.setCell (.inl rfl) u
 have ho2:=o1 _ 8 (.int .i64 goal) (o1 _ 7 v (o1 _ 6 (.bool t.line) (o1 _ 5 (.int .i64 t.till) (o1 _ 4 (.int .i64 t.from') (o1 _ 3 (.string t.text) (o1 _ 2 (.int .i64 t.kind) (Only.refl _ wc)))))))
 have hs:=fun(a:World) (c:Array Value) (j:Nat) (u:Value) (ha:a.heap[E.b]? =some (.cells c 61 (0,0)))=>heap_setCell_same a E.b j c 61 u ha
 have hb2:=hs _ _ 8 (.int .i64 goal) (hs _ _ 7 v (hs _ _ 6 (.bool t.line) (hs _ _ 5 (.int .i64 t.till) (hs _ _ 4 (.int .i64 t.from') (hs _ _ 3 (.string t.text) (hs _ _ 2 (.int .i64 t.kind) h1.hb))))))
 have hlt:E.b<w.heap.size:=h.lt
 have h2:=h1.turn (q:= { p with tok:=t,ahead:=cs,goal:=goal }) ho2 (hb2.trans (congrArg (fun c=>some (Obj.cells c 61 (0,0))) (by simp [ad8]:_=ad8 E { p with tok:=t,ahead:=cs,goal:=goal } v vc mb))) (be9 ho (Nat.zero_le _)) (fun g hg=>by
  obtain⟨g1,g2⟩:=aa5 ho hg
  refine⟨g1,fun hf=> ?_,by omega,fun e=> ?_,fun e=> ?_⟩
  ·have:=(h0.fo g hf).2.1
   omega
  ·have:=(aa5 h0.cm e).1
   omega
  ·have:=ah7 h0.map
   omega) rfl rfl h0.nst hE
 exact⟨h2.st,h1.pb h2 (ho2.mono fun _ hk=> .inl hk) (fun _ hk=> .inl hk) rfl⟩
theorem St.fr (h:St E F w p) {X:Nat→Prop} (hP:PB E.b X w w') {g:Nat} (hg:F g) (hX: ¬X g):w'.heap[g]? =w.heap[g]? :=
 hP.only.block g (h.fo g hg).2.1 fun ho=>ho.elim (h.fo g hg).2.2 hX
def IsP (E:PE) (F:Nat→Prop) (w:World) (n:Nd) (v:Value):Prop:=IsS w (fun k=>k<w.heap.size∧¬Own w E.b k∧¬F k) n v
theorem IsP.pb {X:Nat→Prop} {n:Nd} {v:Value} (h:IsP E F w n v) (hP:PB E.b X w w') (hX: ∀k,X k→F k):IsP E F w' n v:=
 h.keep (fun k hk=>⟨Nat.lt_of_lt_of_le hk.1 hP.only.size,fun ho=>(hP.own k ho).elim hk.2.1 (by omega),hk.2.2⟩) fun k hk=>hP.only.block k hk.1 fun ho=>ho.elim hk.2.1 fun hx=>hk.2.2 (hX k hx)
theorem IsP.weak {n:Nd} {v:Value} (h:IsP E F w n v) (hG: ∀k,G k→F k):IsP E G w n v:=h.keep (fun k hk=>⟨hk.1,hk.2.1,fun hg=>hk.2.2 (hG k hg)⟩) fun _ _=>rfl
theorem IsP.only {n:Nd} {v:Value} (h:IsP E F w n v) (ho:Only F w w') (hb:E.b<w.heap.size) (hf: ¬F E.b):IsP E F w' n v:=
 h.keep (fun _ hk=>⟨Nat.lt_of_lt_of_le hk.1 ho.size,fun h2=>hk.2.1 ((Own.same (ho.block _ hb hf)).1 h2),hk.2.2⟩) fun k hk=>ho.block k hk.1 hk.2.2
theorem IsP.grow {n:Nd} {v:Value} (h:IsP E F w n v) (ho:Only F w w') (hb:E.b<w.heap.size) (hf: ¬F E.b):IsP E (fun k=>F k∨(w.heap.size≤k∧k<w'.heap.size)) w' n v:=
 h.keep (fun _ hk=>⟨Nat.lt_of_lt_of_le hk.1 ho.size,fun h2=>hk.2.1 ((Own.same (ho.block _ hb hf)).1 h2),fun h3=>h3.elim hk.2.2 (by omega)⟩) fun k hk=>ho.block k hk.1 hk.2.2
def KsIn (E:PE) (F:Nat→Prop) (w:World) (ks:List Nd) (v:Value):Prop:= ∃a cap,v= .slice a ks.length cap∧ks.length≤cap∧RowS w (fun k=>k<w.heap.size∧¬Own w E.b k∧¬F k) ks a 0
theorem Ans.val {α:Type} {T:Res α} {a:α} {v:Value} {A:α→Value→World→Prop} (ht:T= .ok a q) (h:St E F w p) (hA:A a v w') (hq:q=p) (hb:Below w.heap.size w w'):Ans E F X w T A (.returned v) w':=by
 subst ht hq
 exact⟨v,rfl,hA,h.only (Only.of_below hb),(PB.refl E.b X w).only' (Only.of_below (X:=fun _=>False) hb) h.lt id (fun _ hk=>hk.elim)⟩
theorem St.enter (h:St E F w p) (ho:Only F w w'): ∃F1:Nat→Prop,(∀k,F k→F1 k)∧(∀k,w.heap.size≤k→k<w'.heap.size→F1 k)∧(∀k,F1 k→F k∨w.heap.size≤k)∧St E F1 w' p∧∀n v,IsP E F w n v→IsP E F1 w' n v:=
 ⟨_,fun _ hk=> .inl hk,fun _ h1 h2=> .inr ⟨h1,h2⟩,fun _ hk=>hk.imp id And.left,h.grow ho,fun _ _ hn=>hn.grow ho h.lt h.notF⟩
end
abbrev X0:Nat→Prop:=fun _=>False
theorem PM.cases {α β:Type} {x:PM α} {k:α→PM β} {p:Ps} {T:Res β} (h:(x>>=k) p=T) (hn:T≠ .out):(∃a q,x p= .ok a q∧k a q=T)∨(∃c i,x p= .bad c i∧T= .bad c i):=by
 change PM.bind x k p=T at h
 unfold PM.bind at h
 cases hx:x p with
 |ok a q=>rw [hx] at h;exact .inl ⟨a,q,rfl,h⟩
 |bad c i=>rw [hx] at h;exact .inr ⟨c,i,rfl,h.symm⟩
 |out=>rw [hx] at h;exact absurd h.symm hn
theorem TkAt.fs {w:World} {g:Nat} {x:Tk} (h:TkAt w g x):w.cell? ⟨g,0,none⟩=some (.int .i64 x.kind)∧w.cell? ⟨g,1,none⟩=some (.string x.text)∧w.cell? ⟨g,2,none⟩=some (.int .i64 x.from')∧w.cell? ⟨g,3,none⟩=some (.int .i64 x.till)∧w.cell? ⟨g,4,none⟩=some (.bool x.line)∧
  w.frozen? ⟨g,0,none⟩=false∧w.frozen? ⟨g,1,none⟩=false∧w.frozen? ⟨g,2,none⟩=false∧w.frozen? ⟨g,3,none⟩=false∧w.frozen? ⟨g,4,none⟩=false:=
 ⟨h.cell 0,h.cell 1,h.cell 2,h.cell 3,h.cell 4,h.frozen 0,h.frozen 1,h.frozen 2,h.frozen 3,h.frozen 4⟩
theorem TkAt.new {w:World} {g:Nat} {k:Int} {x:ByteArray} {f u:Int} {l:Bool} (h:w.heap.size=g):TkAt (w.alloc (.cells #[.int .i64 k,.string x,.int .i64 f,.int .i64 u,.bool l] 49)) g ⟨k,x,f,u,l⟩:=by
 subst h
 exact heap_alloc_new _ _
theorem TkAt.alloc {w:World} {g:Nat} {x:Tk} (h:TkAt w g x) (o:Obj):TkAt (w.alloc o) g x:=(Below.heap_alloc w o g h.lt).trans h
theorem TkAt.drew {w:World} {g:Nat} {x:Tk} (h:TkAt w g x):TkAt w.drew g x:=h
theorem TkAt.same {w w':World} {g:Nat} {x:Tk} (h:TkAt w g x) (hk:w'.heap[g]? =w.heap[g]?):TkAt w' g x:=hk.trans h
theorem aF3 {fn:Func} {r:Tmp} (h:fn.results= #[.cell r 27]) (tmps:Array Value) (w:World) (g:Nat) {k:Int} {t:ByteArray} {b:Option Addr} {n cap:Nat} {f u:Int} (hp:tmps.getD r undef= .pointer (some ⟨g,0,none⟩)) (hx:ab0 w g k t b n cap f u):
  (results fn tmps).run Tryz.prog w= .ok (.agg (aa7 k t b n cap f u)) w:=
 results_cell_row h tmps w g 27 _ (0,0) _ hp hx Tryz.underlying27 rfl (by kernel_rfl)
theorem aQ6 {fn:Func} {r:Tmp} (h:fn.results= #[.cell r 49]) (tmps:Array Value) (w:World) (g:Nat) {x:Tk} (hp:tmps.getD r undef= .pointer (some ⟨g,0,none⟩)) (hx:TkAt w g x):
  (results fn tmps).run Tryz.prog w= .ok x.val w:=
 results_cell_row h tmps w g 49 _ (0,0) _ hp hx Tryz.underlying49 rfl (by kernel_rfl)
end
section
open Go.RowKit
theorem P.punct (t:Tk) (x:ByteArray) (w:World):Calls Tryz.prog 28 #[.agg #[.int .i64 t.kind,.string t.text,.int .i64 t.from',.int .i64 t.till,.bool t.line],.string x] w fun e w'=>e= .returned (.bool (aa2 t x))∧Below w.heap.size w w':=by
 obtain⟨k,tx,f,u,l⟩:=t
 unfold aa2
 simp only
 have hx:=bt tx x.toList
 rw [show (⟨x.toList.toArray⟩:ByteArray)=x by rw [Lib.toList_data]] at hx
 by_cases hk:k=5
 ·subst hk
  go_enter Tryz.func28,Tryz.ntmps28
  go_wp2_with fail
  go_ret
  exact⟨rfl,Below.alloc (Below.refl _ _) (Nat.le_refl _) _⟩
 ·have h2:(k==5)=false:=by rw [beq_eq_false_iff_ne];exact hk
  go_enter Tryz.func28,Tryz.ntmps28
  go_wp2_with fail
  go_ret
  exact⟨by rw [decide_eq_false hk];rfl,Below.alloc (Below.refl _ _) (Nat.le_refl _) _⟩
theorem P.name (t:Tk) (x:ByteArray) (w:World):Calls Tryz.prog 48 #[.agg #[.int .i64 t.kind,.string t.text,.int .i64 t.from',.int .i64 t.till,.bool t.line],.string x] w fun e w'=>e= .returned (.bool (ae7 t x))∧Below w.heap.size w w':=by
 obtain⟨k,tx,f,u,l⟩:=t
 unfold ae7
 simp only
 have hx:=bt tx x.toList
 rw [show (⟨x.toList.toArray⟩:ByteArray)=x by rw [Lib.toList_data]] at hx
 by_cases hk:k=1
 ·subst hk
  go_enter Tryz.func48,Tryz.ntmps48
  go_wp2_with fail
  go_ret
  exact⟨rfl,Below.alloc (Below.refl _ _) (Nat.le_refl _) _⟩
 ·have h2:(k==1)=false:=by rw [beq_eq_false_iff_ne];exact hk
  go_enter Tryz.func48,Tryz.ntmps48
  go_wp2_with fail
  go_ret
  exact⟨by rw [decide_eq_false hk];rfl,Below.alloc (Below.refl _ _) (Nat.le_refl _) _⟩
theorem P.fail (b:Nat) (c i:Int) (w:World):Calls Tryz.prog 26 #[.pointer (some ⟨b,0,none⟩),.int .i64 c,.int .i64 i] w fun e w'=>e= .panicked (flt c i)∧w=w':=by
 go_enter Tryz.func26,Tryz.ntmps26
 go_wp2_with fail
 exact⟨rfl,rfl,rfl⟩
theorem P.leaf (kind:Int) (t:Tk) (w:World):Calls Tryz.prog 83 #[.int .i64 kind,.agg #[.int .i64 t.kind,.string t.text,.int .i64 t.from',.int .i64 t.till,.bool t.line]] w fun e w'=>e= .returned (.agg #[.int .i64 kind,.string t.text,.slice none 0 0,.int .i64 t.from',.int .i64 t.till])∧Below w.heap.size w w':=by
 obtain⟨k,tx,f,u,l⟩:=t
 simp only
 go_enter Tryz.func83,Tryz.ntmps83
 go_wp2_with fail
 refine bodyPost_ret (aF3 (k:=kind) (t:=tx) (b:=none) (n:=0) (cap:=0) (f:=f) (u:=u) rfl _ _ (w.heap.size+1) rfl ?_) rfl ?_
 ·unfold ab0
  rw [show w.heap.size+1=(w.alloc (.cells #[.int .i64 k,.string tx,.int .i64 f,.int .i64 u,.bool l] 49)).heap.size by rw [World.size_alloc]]
  exact heap_alloc_new _ _
 ·exact⟨rfl,(Below.alloc (Below.refl _ _) (Nat.le_refl _) _).alloc (by rw [World.size_alloc];omega) _⟩
theorem P.odd {E:PE} {F:Nat→Prop} {w:World} {p:Ps} (h:St E F w p):Calls Tryz.prog 19 #[.pointer (some ⟨E.b,0,none⟩)] w fun e w'=>e= .panicked (flt 1001 p.tok.from')∧w=w':=by
 have c4:=h.c_from
 go_enter Tryz.func19,Tryz.ntmps19
 go_wp2_with (go_at_call 26;refine(P.fail _ _ _ _).mono ?_;rintro e w' ⟨rfl,rfl⟩)
 exact⟨rfl,rfl,rfl⟩
theorem P.node {E:PE} {F:Nat→Prop} {w:World} {p:Ps} (kind:Int) (text:ByteArray) (from':Int) (ks:List Nd) (v:Value) (h:St E F w p) (hk:KsIn E F w ks v):
  Calls Tryz.prog 30 #[.pointer (some ⟨E.b,0,none⟩),.int .i64 kind,.string text,.int .i64 from',v] w (Ans E F X0 w (ac7 kind text from' ks p) fun n v w'=>IsP E F w' n v):=by
 have c1:=h.c_at
 have HS:=hJ h
 have hlt:=h.lt
 clear h
 obtain⟨a,cap,rfl,hc,hr⟩:=hk
 have HR:=hJ hr
 clear hr
 go_enter Tryz.func30,Tryz.ntmps30
 go_wp2_with fail
 refine bodyPost_ret (aF3 (k:=kind) (t:=text) (b:=a) (n:=ks.length) (cap:=cap) (f:=from') (u:=p.at') rfl _ _ w.heap.size rfl (heap_alloc_new _ _)) rfl ?_
 have hb:Below w.heap.size w (w.alloc (.cells (aa7 kind text a ks.length cap from' p.at') 27)):=Below.alloc (Below.refl _ _) (Nat.le_refl _) _
 refine Ans.val rfl HS.out ?_ rfl hb
 exact⟨a,cap,rfl,hc,ab2 (fun k hk=>⟨Nat.lt_of_lt_of_le hk.1 hb.size,fun ho=>hk.2.1 ((Own.same (hb.block _ hlt)).1 ho),hk.2.2⟩) (fun k hk=>hb.block k hk.1) HR.out⟩
theorem ax8 (w:World):TkAt (w.alloc (.cells #[.int .i64 0,.string ⟨#[]⟩,.int .i64 0,.int .i64 0,.bool false] 49)) w.heap.size Tk.zero:=heap_alloc_new _ _
theorem P.look {E:PE} (hE:E.Ok) {F:Nat→Prop} {w:World} {p:Ps} (place:Int) (h:St E F w p) (hne:aE0 E.s place p≠ .out):
  Calls Tryz.prog 80 #[.pointer (some ⟨E.b,0,none⟩),.int .i64 place] w fun e w'=> ∃t,t=bv6 E.s place∧e= .returned (.agg #[.int .i64 t.kind,.string t.text,.int .i64 t.from',.int .i64 t.till,.bool t.line])∧Below w.heap.size w w':=by
 have hp:0≤place∧place≤(E.s.size:Int)∧(nxt E.s place.toNat 1).okB=true:=by
  unfold aE0 at hne
  split at hne
  ·exact absurd rfl hne
  ·rename_i h1
   refine⟨by omega,by omega,?_⟩
   cases h2:(nxt E.s place.toNat 1).okB with
   |true=>rfl
   |false=>exact absurd (.inr (.inr h2)) h1
 obtain⟨z,rfl⟩: ∃z:Nat,place=z:=⟨place.toNat,by omega⟩
 have hz:z≤E.s.size:=by omega
 rw [Int.toNat_natCast] at hp
 obtain⟨kind,q,n,line,hn⟩:=NxO.ok_of hp.2.2
 have HN:=hJ fun W hb=>aY5 E.s z 1 W hE.hs hz ((hE.lx.bel h.bel).bel hb) _ rfl hn
 have c0:=h.c_s
 have HS:=hJ h
 have hlt:=h.lt
 have hk:=ax8 w
 have hb0:Below w.heap.size w (w.alloc (.cells #[.int .i64 0,.string ⟨#[]⟩,.int .i64 0,.int .i64 0,.bool false] 49)):=Below.alloc (Below.refl _ _) (Nat.le_refl _) _
 clear h hne hp
 unfold bv6
 rw [Int.toNat_natCast,hn]
 clear hn
 go_enter Tryz.func80,Tryz.ntmps80
 go_wp2_with fail
 refine(HN.out _ hb0).mono ?_
 unfold aH4 Tk.val Tk.cells
 rintro e w1 ⟨v,rfl,_,hb⟩
 obtain⟨z0,z1,z2,z3,z4,y0,y1,y2,y3,y4⟩:=(hk.bel hb).fs
 have hz1:w.heap.size<w1.heap.size:=(hk.bel hb).lt
 go_wp2_with fail
 refine bodyPost_ret (aQ6 (x:=tkOf E.s kind q n line) rfl _ _ w.heap.size rfl ?_) rfl ?_
 ·exact TkAt.alloc (TkAt.lay (kind:=kind) (text:=E.s.extract q (q+n)) (from':=q) (till:=((q+n:Nat):Int)) (line:=line) (hk.bel hb)) _
 ·refine⟨_,rfl,rfl,?_⟩
  have h5:=fun a b c d e=>ay1 (kind:=a) (from':=b) (till:=c) (text:=d) (line:=e) (aa0 hb0 hb) (Nat.le_refl _)
  exact Below.alloc (h5 _ _ _ _ _) (h5 _ _ _ _ _).size _
end
end Go.Proofs.YtnobjeelihkjmaaGreatDoor
