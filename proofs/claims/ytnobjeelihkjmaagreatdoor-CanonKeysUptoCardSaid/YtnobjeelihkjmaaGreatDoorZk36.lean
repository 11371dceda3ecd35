/- Steps (Ck Ch Cb Cr Ce Cn Cg). Conditions: as stated. -/
import Derived.Test.YtnobjeelihkjmaaGreatDoorZk05
import Derived.Test.YtnobjeelihkjmaaGreatDoorZk35
import Derived.Test.YtnobjeelihkjmaaGreatDoorZk34
set_option maxHeartbeats 4000000
set_option maxRecDepth 20000
namespace Go.Proofs.YtnobjeelihkjmaaGreatDoor
section
open Go.RowKit
mutual
def SpC (w:World):Nd→Nat→Nat→(Nat→Prop)→Prop
 | .mk k t ks f u,g,o,F=>(∀i,i<5→w.frozen? ⟨g,o+i,none⟩=false)∧∃b cap,(∀i,i<5→w.cell? ⟨g,o+i,none⟩=(aa7 k t b ks.length cap f u)[i]?)∧ks.length≤cap∧
   (ks= []∨∃(g2:Nat) (Fs:Nat→Nat→Prop),b=some ⟨g2,0,none⟩∧F g2∧(∀j,j<ks.length→(∀x,Fs j x→F x)∧¬Fs j g2∧∀i,i<ks.length→i≠j→∀x,Fs j x→¬Fs i x)∧SpK w ks g2 0 Fs)
def SpK (w:World):List Nd→Nat→Nat→(Nat→Nat→Prop)→Prop
 | [],_,_,_=>True
 |k::ks,g,i,Fs=>SpC w k g (i*5) (Fs i)∧SpK w ks g (i+1) Fs
end
def SpX (w:World) (ks:List Nd) (b:Option Addr) (F:Nat→Prop):Prop:=
 ks= []∨∃(g2:Nat) (Fs:Nat→Nat→Prop),b=some ⟨g2,0,none⟩∧F g2∧(∀j,j<ks.length→(∀x,Fs j x→F x)∧¬Fs j g2∧∀i,i<ks.length→i≠j→∀x,Fs j x→¬Fs i x)∧SpK w ks g2 0 Fs
theorem ap7 (w:World) (n:Nd) (g o:Nat) (F:Nat→Prop):SpC w n g o F=((∀i,i<5→w.frozen? ⟨g,o+i,none⟩=false)∧∃b cap,(∀i,i<5→w.cell? ⟨g,o+i,none⟩=(aa7 n.kind n.text b n.kids.length cap n.from' n.till)[i]?)∧n.kids.length≤cap∧SpX w n.kids b F):=by
 cases n
 rw [SpC]
 rfl
theorem aq3 {w:World} {g:Nat} {Fs:Nat→Nat→Prop} : ∀ {ks:List Nd} {i:Nat},SpK w ks g i Fs→∀j,(h:j<ks.length)→SpC w ks[j] g ((i+j)*5) (Fs (i+j))
 | [],_,_,j,h=>absurd h (by simp)
 |k::ks,i,hr,j,h=>by
  rw [SpK] at hr
  cases j with
  |zero=>exact hr.1
  |succ j=>
   have:=aq3 hr.2 j (by simpa using h)
   rw [show i+1+j=i+(j+1) by omega] at this
   exact this
theorem aH6 {w:World} {g:Nat} {Fs:Nat→Nat→Prop} : ∀ {ks:List Nd} {i:Nat},(∀j,(h:j<ks.length)→SpC w ks[j] g ((i+j)*5) (Fs (i+j)))→SpK w ks g i Fs
 | [],_,_=>by rw [SpK];trivial
 |k::ks,i,h=>by
  rw [SpK]
  refine⟨h 0 (by simp),aH6 fun j hj=> ?_⟩
  have:=h (j+1) (by simpa using hj)
  rw [show i+1+j=i+(j+1) by omega]
  exact this
theorem aB4 {w w':World} (n:Nd): ∀(g o:Nat) (F F':Nat→Prop),(∀i,i<5→w'.cell? ⟨g,o+i,none⟩=w.cell? ⟨g,o+i,none⟩∧w'.frozen? ⟨g,o+i,none⟩=w.frozen? ⟨g,o+i,none⟩)→(∀x,F x→w'.heap[x]? =w.heap[x]?)→(∀x,F x→F' x)→SpC w n g o F→SpC w' n g o F':=by
 induction n using Nd.ind with
 |h n ih=>
  intro g o F F' hc hk hF h
  rw [ap7] at h⊢
  obtain⟨h1,b,cap,h2,h3,h4⟩:=h
  refine⟨fun i hi=>(hc i hi).2.trans (h1 i hi),b,cap,fun i hi=>(hc i hi).1.trans (h2 i hi),h3,?_⟩
  rcases h4 with h4|⟨g2,Fs,h5,h6,h7,h8⟩
  ·exact .inl h4
  ·refine .inr ⟨g2,Fs,h5,hF _ h6,fun j hj=>⟨fun x hx=>hF x ((h7 j hj).1 x hx),(h7 j hj).2⟩,aH6 fun j hj=> ?_⟩
   have h9:=aq3 h8 j hj
   have hb:=hk g2 h6
   rw [Nat.zero_add] at h9⊢
   exact ih _ (List.getElem_mem hj) _ _ _ _ (fun i hi=>⟨World.cell?_of_block hb,World.frozen?_of_block (a:=⟨g2,j*5+i,none⟩) hb⟩) (fun x hx=>hk x ((h7 j hj).1 x hx)) (fun x hx=>hx) h9
theorem as3 {w w':World} {ks:List Nd} {b:Option Addr} {F F':Nat→Prop} (hk: ∀x,F x→w'.heap[x]? =w.heap[x]?) (hF: ∀x,F x→F' x) (h:SpX w ks b F):SpX w' ks b F':=by
 rcases h with h|⟨g2,Fs,h5,h6,h7,h8⟩
 ·exact .inl h
 ·refine .inr ⟨g2,Fs,h5,hF _ h6,fun j hj=>⟨fun x hx=>hF x ((h7 j hj).1 x hx),(h7 j hj).2⟩,aH6 fun j hj=> ?_⟩
  have h9:=aq3 h8 j hj
  have hb:=hk g2 h6
  rw [Nat.zero_add] at h9⊢
  exact aB4 _ _ _ _ _ (fun i hi=>⟨World.cell?_of_block hb,World.frozen?_of_block (a:=⟨g2,j*5+i,none⟩) hb⟩) (fun x hx=>hk x ((h7 j hj).1 x hx)) (fun x hx=>hx) h9
theorem SpC.ndc {w:World} {L B:Nat} (n:Nd): ∀(g o:Nat) (F:Nat→Prop),(∀x,F x→L≤x∧x<B)→L≤g→g<B→SpC w n g o F→NdC w L B n g o:=by
 induction n using Nd.ind with
 |h n ih=>
  intro g o F hF h1 h2 h
  rw [ap7] at h
  obtain⟨_,b,cap,hc,h3,h4⟩:=h
  rw [ai9]
  refine⟨b,cap,h1,h2,hc 0 (by decide),hc 1 (by decide),hc 2 (by decide),hc 3 (by decide),hc 4 (by decide),h3,?_⟩
  rcases h4 with h4|⟨g2,Fs,h5,h6,h7,h8⟩
  ·rw [h4,RowP]
   trivial
  ·refine ao7 fun j hj=>⟨g2,0,h5,?_⟩
   have h9:=aq3 h8 j hj
   rw [Nat.zero_add] at h9
   rw [Nat.zero_add,Nat.zero_add]
   exact ih _ (List.getElem_mem hj) _ _ _ (fun x hx=>hF x ((h7 j hj).1 x hx)) (hF _ h6).1 (hF _ h6).2 h9
theorem SpX.row {w:World} {L B:Nat} {ks:List Nd} {b:Option Addr} {F:Nat→Prop} (hF: ∀x,F x→L≤x∧x<B) (h:SpX w ks b F):RowP w L B ks b 0:=by
 rcases h with h|⟨g2,Fs,h5,h6,h7,h8⟩
 ·rw [h,RowP]
  trivial
 ·refine ao7 fun j hj=>⟨g2,0,h5,?_⟩
  have h9:=aq3 h8 j hj
  rw [Nat.zero_add] at h9
  rw [Nat.zero_add,Nat.zero_add]
  exact SpC.ndc _ _ _ _ (fun x hx=>hF x ((h7 j hj).1 x hx)) (hF _ h6).1 (hF _ h6).2 h9
def aM1 (w:World) (L B:Nat) (x:Nd) (b:Option Addr) (c:Nat):Prop:=x.kids.length≤c∧SpX w x.kids b fun y=>L≤y∧y<B
theorem aM1.keep {w w':World} {L B L' B':Nat} {x:Nd} {b:Option Addr} {c:Nat} (hL:L'≤L) (hB:B≤B') (hk: ∀k,L≤k→k<B→w'.heap[k]? =w.heap[k]?) (h:aM1 w L B x b c):aM1 w' L' B' x b c:=
 ⟨h.1,as3 (fun x hx=>hk x hx.1 hx.2) (fun x hx=>⟨by omega,by omega⟩) h.2⟩
def NdSp (w:World) (L B:Nat) (n:Nd) (v:Value):Prop:= ∃b cap,v= .agg (aa7 n.kind n.text b n.kids.length cap n.from' n.till)∧aM1 w L B n b cap
theorem NdSp.v {w:World} {L B:Nat} {n:Nd} {v:Value} (h:NdSp w L B n v):NdV w L B n v:=by
 obtain⟨b,cap,h1,h2,h3⟩:=h
 exact⟨b,cap,h1,h2,h3.row fun _ h=>h⟩
def af5 (w:World) (base T:Nat) (v:Value) (xs:List Nd):Prop:=
 ∃(bs:List (Option Addr × Nat)) (Ls Bs:Nat→Nat),bs.length=xs.length∧w.ownsRow base 27 5 v xs.length (ad2 xs bs)∧
  ∀j,(hj:j<xs.length)→(hb:j<bs.length)→base≤Ls j∧Bs j≤T∧(∀g,v.ownBlock=some g→g<Ls j∨Bs j≤g)∧(∀i,i<j→Bs i≤Ls j)∧aM1 w (Ls j) (Bs j) xs[j] bs[j].1 bs[j].2
theorem af5.nil (w:World) (base T:Nat):af5 w base T (.slice none 0 0) []:=⟨[],fun _=>0,fun _=>0,rfl,World.ownsRow_nil _ _ _ _,fun j h=>absurd h (by simp)⟩
theorem af5.high {w w':World} {base T T':Nat} {v:Value} {xs:List Nd} (h:af5 w base T v xs) (hT:T≤T') (hTw:T≤w.heap.size) (hk: ∀k,base≤k→k<w.heap.size→w'.heap[k]? =w.heap[k]?):af5 w' base T' v xs:=by
 obtain⟨bs,Ls,Bs,h1,h2,h3⟩:=h
 refine⟨bs,Ls,Bs,h1,⟨h2.1,?_⟩,fun j hj hbj=> ?_⟩
 ·rcases h2.2 with h|⟨g,cap,cur,hv,hg,hc,r⟩
  ·exact .inl h
  ·exact .inr ⟨g,cap,cur,hv,hg,(hk g hg (Array.getElem?_eq_some_iff.1 hc).1).trans hc,r⟩
 ·obtain⟨c1,c2,c3,c4,c5⟩:=h3 j hj hbj
  exact⟨c1,Nat.le_trans c2 hT,c3,c4,c5.keep (Nat.le_refl _) (Nat.le_refl _) (fun k k1 k2=>hk k (by omega) (by omega))⟩
theorem af5.bel {w w':World} {base T:Nat} {v:Value} {xs:List Nd} (h:af5 w base T v xs) (hTw:T≤w.heap.size) (hb:Below w.heap.size w w'):af5 w' base T v xs:=
 h.high (Nat.le_refl _) hTw fun k _ h2=>hb.block k h2
noncomputable def af5.cells {w:World} {base T:Nat} {v:Value} {xs:List Nd} (h:af5 w base T v xs):List Value:=ad2 xs (Classical.choose h)
theorem af5.own {w:World} {base T m:Nat} {v:Value} {xs:List Nd} (h:af5 w base T v xs) (hm:xs.length=m):w.ownsRow base 27 5 v m h.cells:=by
 subst hm
 obtain⟨Ls,Bs,h1,h2,h3⟩:=Classical.choose_spec h
 exact h2
theorem af5.push {w1 w2:World} {base T m:Nat} {v:Value} {xs:List Nd} {x:Nd} {b:Option Addr} {cap g cap2 L B:Nat} {o:Obj} (h:af5 w1 base T v xs) (hm:xs.length=m) (hL:base≤L) (hTL:T≤L) (hv: ∀g,v.ownBlock=some g→g<L) (hB:B≤w1.heap.size) (hTw:T≤w1.heap.size) (hr:aM1 w1 L B x b cap)
  (ho:w2.ownsRow base 27 5 (.slice (some ⟨g,0,none⟩) (m+1) cap2) (m+1) (h.cells++(aa7 x.kind x.text b x.kids.length cap x.from' x.till).toList)) (hg:(w1.alloc o).grownBy w2 v.ownBlock) (hat:v.ownBlock=some g∨g=w1.heap.size+1):
  af5 w2 base w2.heap.size (.slice (some ⟨g,0,none⟩) (m+1) cap2) (xs++ [x]):=by
 subst hm
 unfold af5.cells at ho
 obtain⟨Ls,Bs,h1,h2,h3⟩:=Classical.choose_spec h
 generalize Classical.choose h=bs at*
 have hsz:(w1.alloc o).heap.size=w1.heap.size+1:=World.size_alloc _ _
 have hgs:=hg.size
 have hold: ∀k,k<w1.heap.size→v.ownBlock≠some k→w2.heap[k]? =w1.heap[k]? :=fun k hk hne=>(hg.block k (by omega) (fun e=>hne e.symm)).trans (Below.heap_alloc _ _ _ hk)
 refine⟨bs++ [(b,cap)],fun i=>if i<xs.length then Ls i else L,fun i=>if i<xs.length then Bs i else B,by simp [h1],?_,fun j hj hbj=> ?_⟩
 ·rw [ak6 xs bs x (b,cap) h1,List.length_append]
  exact ho
 ·by_cases hlt:j<xs.length
  ·have hbl:j<bs.length:=by omega
   simp only [if_pos hlt]
   rw [List.getElem_append_left hlt,List.getElem_append_left hbl]
   obtain⟨c1,c2,c3,c4,c5⟩:=h3 j hlt hbl
   refine⟨c1,by omega,fun g' e=> ?_,fun i hi=> ?_,c5.keep (Nat.le_refl _) (Nat.le_refl _) (fun k k1 k2=> ?_)⟩
   ·have e':g=g':=by simpa [Value.ownBlock] using e
    subst e'
    rcases hat with hat|hat
    ·exact c3 g hat
    ·right;omega
   ·rw [if_pos (by omega)]
    exact c4 i hi
   ·refine hold k (by omega) (fun e=> ?_)
    rcases c3 k e with h|h<;>omega
  ·have hje:j=xs.length:=by simp at hj;omega
   subst hje
   simp only [if_neg (Nat.lt_irrefl _)]
   rw [List.getElem_append_right (Nat.le_refl _),List.getElem_append_right (by omega)]
   simp only [Nat.sub_self,List.getElem_cons_zero,h1]
   refine⟨hL,by omega,fun g' e=> ?_,fun i hi=> ?_,hr.keep (Nat.le_refl _) (Nat.le_refl _) (fun k k1 k2=> ?_)⟩
   ·have e':g=g':=by simpa [Value.ownBlock] using e
    subst e'
    rcases hat with hat|hat
    ·left
     exact hv g hat
    ·right;omega
   ·rw [if_pos hi]
    obtain⟨_,c2,_⟩:=h3 i hi (by omega)
    omega
   ·refine hold k (by omega) (fun e=> ?_)
    have:=hv k e
    omega
theorem af5.row {w:World} {base T:Nat} {v:Value} {xs:List Nd} (h:af5 w base T v xs) (hT:T≤w.heap.size): ∃b cap,v= .slice b xs.length cap∧xs.length≤cap∧SpX w xs b fun y=>base≤y∧y<w.heap.size:=by
 obtain⟨bs,Ls,Bs,h1,h2,h3⟩:=h
 rcases h2.2 with ⟨rfl,h0⟩|⟨g,cap,cur,rfl,hg,hc,hn,hrest⟩
 ·have:xs= []:=List.length_eq_zero_iff.1 h0
  subst this
  exact⟨none,0,rfl,Nat.le_refl _,.inl rfl⟩
 ·have hlt:=(Array.getElem?_eq_some_iff.1 hc).1
  refine⟨_,cap,rfl,hn,.inr ⟨g,fun j y=>Ls j≤y∧y<Bs j,rfl,⟨hg,hlt⟩,fun j hj=> ?_,aH6 fun j hj=> ?_⟩⟩
  ·obtain⟨c1,c2,c3,c4,_⟩:=h3 j hj (by omega)
   refine⟨fun x hx=>⟨by omega,by omega⟩,fun hx=> ?_,fun i hi hne x hx hy=> ?_⟩
   ·rcases c3 g rfl with h|h<;>omega
   ·rcases Nat.lt_or_ge i j with hij|hij
    ·have:=c4 i hij
     omega
    ·obtain⟨_,_,_,d4,_⟩:=h3 i hi (by omega)
     have:=d4 j (by omega)
     omega
  ·obtain⟨c1,c2,c3,c4,c5⟩:=h3 j hj (by omega)
   rw [ap7,Nat.zero_add]
   refine⟨fun i hi=>frozen_of_row w g _ _ _ hc,_,_,fun i hi=> ?_,c5.1,c5.2⟩
   rw [h2.cellAt (j*5+i) (by omega)]
   exact am5 xs bs h1 j i hj hi
end
section
open Go.RowKit
structure Kp (w w':World) (F:Nat→Prop) (g o:Nat):Prop where
 os:w'.os=w.os
 tape:w'.tape=w.tape
 output:w'.output=w.output
 size:w.heap.size≤w'.heap.size
 blk: ∀k,k<w.heap.size→k≠g→¬F k→w'.heap[k]? =w.heap[k]?
 cel: ∀j,¬(o≤j∧j<o+5)→w'.cell? ⟨g,j,none⟩=w.cell? ⟨g,j,none⟩∧w'.frozen? ⟨g,j,none⟩=w.frozen? ⟨g,j,none⟩
theorem Kp.refl (w:World) (F:Nat→Prop) (g o:Nat):Kp w w F g o:=⟨rfl,rfl,rfl,Nat.le_refl _,fun _ _ _ _=>rfl,fun _ _=>⟨rfl,rfl⟩⟩
theorem Kp.trans {w w1 w2:World} {F F1:Nat→Prop} {g o:Nat} (h:Kp w w1 F g o) (k:Kp w1 w2 F1 g o) (hF: ∀x,F1 x→F x∨w.heap.size≤x):Kp w w2 F g o:=by
 refine⟨k.os.trans h.os,k.tape.trans h.tape,k.output.trans h.output,Nat.le_trans h.size k.size,fun x hx hg hf=> ?_,fun j hj=>⟨(k.cel j hj).1.trans (h.cel j hj).1,(k.cel j hj).2.trans (h.cel j hj).2⟩⟩
 refine(k.blk x (Nat.lt_of_lt_of_le hx h.size) hg (fun h1=> ?_)).trans (h.blk x hx hg hf)
 rcases hF x h1 with h2|h2
 ·exact hf h2
 ·omega
theorem Kp.of_bel {w w':World} {F:Nat→Prop} {g o:Nat} (h:Below w.heap.size w w') (hg:g<w.heap.size):Kp w w' F g o:=
 ⟨h.os,h.tape,h.output,h.size,fun k hk _ _=>h.block k hk,fun _ _=>⟨World.cell?_of_block (h.block g hg),World.frozen?_of_block (h.block g hg)⟩⟩
theorem Kp.below {w w':World} {F:Nat→Prop} {g o B:Nat} (h:Kp w w' F g o) (hg:B≤g) (hF: ∀x,F x→B≤x) (hB:B≤w.heap.size):Below B w w':=
 ⟨h.os,h.tape,h.output,h.size,fun k hk=>h.blk k (by omega) (by omega) (fun e=>by have:=hF k e;omega)⟩
theorem Kp.setCell {w:World} {F:Nat→Prop} {g o i:Nat} {v:Value} (hi:i<5):Kp w (w.setCell ⟨g,o+i,none⟩ v) F g o:=by
 refine⟨rfl,rfl,rfl,by simp [World.setCell],fun k _ hk _=>Below.heap_setCell _ _ _ _ hk,fun j hj=>⟨World.cell?_setCell_other _ _ _ _ (fun e=> ?_),by rw [World.frozen?_setCell]⟩⟩
 injection e with _ e
 omega
theorem SpC.text {w:World} {n:Nd} {g o:Nat} {F:Nat→Prop} (h:SpC w n g o F) (hg: ¬F g) (t:ByteArray):SpC (w.setCell ⟨g,o+1,none⟩ (.string t)) (.mk n.kind t n.kids n.from' n.till) g o F:=by
 rw [ap7] at h⊢
 obtain⟨h1,b,cap,h2,h3,h4⟩:=h
 refine⟨fun i hi=>by rw [World.frozen?_setCell];exact h1 i hi,b,cap,fun i hi=> ?_,h3,as3 (fun x hx=>Below.heap_setCell _ _ _ _ (fun(e:x=g)=>hg (e▸hx))) (fun x hx=>hx) h4⟩
 by_cases e:i=1
 ·subst e
  rw [World.cell?_setCell_same _ _ _ (h2 1 (by decide))]
  rfl
 ·rw [World.cell?_setCell_other _ _ _ _ (fun e2=>e (by injection e2 with _ e2;omega)),h2 i hi]
  match i,hi,e with
  |0,_,_=>rfl
  |2,_,_=>rfl
  |3,_,_=>rfl
  |4,_,_=>rfl
theorem SpC.facts {w:World} {n:Nd} {g o:Nat} {F:Nat→Prop} (h:SpC w n g o F): ∃b cap,w.cell? ⟨g,o,none⟩=some (.int .i64 n.kind)∧w.cell? ⟨g,o+1,none⟩=some (.string n.text)∧w.cell? ⟨g,o+2,none⟩=some (.slice b n.kids.length cap)∧w.cell? ⟨g,o+3,none⟩=some (.int .i64 n.from')∧w.cell? ⟨g,o+4,none⟩=some (.int .i64 n.till)∧
  w.frozen? ⟨g,o,none⟩=false∧w.frozen? ⟨g,o+1,none⟩=false∧w.frozen? ⟨g,o+2,none⟩=false∧w.frozen? ⟨g,o+3,none⟩=false∧w.frozen? ⟨g,o+4,none⟩=false∧n.kids.length≤cap∧SpX w n.kids b F:=by
 rw [ap7] at h
 obtain⟨h1,b,cap,h2,h3,h4⟩:=h
 exact⟨b,cap,h2 0 (by decide),h2 1 (by decide),h2 2 (by decide),h2 3 (by decide),h2 4 (by decide),h1 0 (by decide),h1 1 (by decide),h1 2 (by decide),h1 3 (by decide),h1 4 (by decide),h3,h4⟩
theorem SpC.kid {w:World} {n:Nd} {g o:Nat} {F:Nat→Prop} (h:SpC w n g o F) (hg: ¬F g) (hF: ∀x,F x→x<w.heap.size) (j:Nat) (hj:j<n.kids.length):
  ∃(g2:Nat) (F2:Nat→Prop) (cap:Nat),w.cell? ⟨g,o+2,none⟩=some (.slice (some ⟨g2,0,none⟩) n.kids.length cap)∧F g2∧¬F2 g2∧(∀x,F2 x→F x)∧SpC w n.kids[j] g2 (j*5) F2∧
   ∀(w':World) (y:Nd) (F3:Nat→Prop),Kp w w' F2 g2 (j*5)→SpC w' y g2 (j*5) F3→(∀x,F3 x→(F2 x∨w.heap.size≤x)∧x<w'.heap.size)→
    Kp w w' F g o∧SpC w' (.mk n.kind n.text (n.kids.set j y) n.from' n.till) g o (fun x=>F x∨(w.heap.size≤x∧x<w'.heap.size)):=by
 rw [ap7] at h
 obtain⟨h1,b,cap,h2,h3,h4⟩:=h
 rcases h4 with h4|⟨g2,Fs,h5,h6,h7,h8⟩
 ·rw [h4] at hj
  exact absurd hj (by simp)
 ·subst h5
  have hk:=aq3 h8 j hj
  rw [Nat.zero_add] at hk
  obtain⟨k1,k2,k3⟩:=h7 j hj
  have hgg:g≠g2:=fun e=>hg (e▸h6)
  have hgl: ¬Fs j g:=fun e=>hg (k1 g e)
  refine⟨g2,Fs j,cap,h2 2 (by decide),h6,k2,k1,hk,fun w' y F3 hkp hy hF3=> ?_⟩
  have hlt2:=hF g2 h6
  have hg2:w'.heap[g]? =w.heap[g]?∨w.heap.size≤g:=by
   rcases Nat.lt_or_ge g w.heap.size with e|e
   ·exact .inl (hkp.blk g e hgg hgl)
   ·exact .inr e
  have hglt:g<w.heap.size:=by
   have:=h2 0 (by decide)
   rcases Nat.lt_or_ge g w.heap.size with e|e
   ·exact e
   ·unfold World.cell? at this
    rw [Array.getElem?_eq_none e] at this
    cases this
  have hgb:=hkp.blk g hglt hgg hgl
  refine⟨⟨hkp.os,hkp.tape,hkp.output,hkp.size,fun x hx hxg hxF=>hkp.blk x hx (fun e=>hxF (e▸h6)) (fun e=>hxF (k1 x e)),fun i _=>⟨World.cell?_of_block hgb,World.frozen?_of_block (a:=⟨g,i,none⟩) hgb⟩⟩,?_⟩
  rw [ap7]
  simp only [Nd.kind,Nd.text,Nd.kids,Nd.from',Nd.till,List.length_set]
  refine⟨fun i hi=>(World.frozen?_of_block (a:=⟨g,o+i,none⟩) hgb).trans (h1 i hi),_,cap,fun i hi=>(World.cell?_of_block hgb).trans (h2 i hi),h3,?_⟩
  refine .inr ⟨g2,fun i x=>if i=j then F3 x else Fs i x,rfl,.inl h6,fun i hi=> ?_,aH6 fun i hi=> ?_⟩
  ·rw [List.length_set] at hi
   by_cases e:i=j
   ·subst e
    simp only [if_true]
    refine⟨fun x hx=> ?_,fun hx=> ?_,fun i2 hi2 hne x hx hx2=> ?_⟩
    ·obtain⟨h9|h9,h10⟩:=hF3 x hx
     ·exact .inl (k1 x h9)
     ·exact .inr ⟨h9,h10⟩
    ·obtain⟨h9|h9,h10⟩:=hF3 g2 hx
     ·exact k2 h9
     ·omega
    ·rw [List.length_set] at hi2
     rw [if_neg hne] at hx2
     obtain⟨h9|h9,h10⟩:=hF3 x hx
     ·exact k3 i2 hi2 hne x h9 hx2
     ·have:=hF x ((h7 i2 hi2).1 x hx2)
      omega
   ·simp only [if_neg e]
    obtain⟨l1,l2,l3⟩:=h7 i hi
    refine⟨fun x hx=> .inl (l1 x hx),l2,fun i2 hi2 hne x hx hx2=> ?_⟩
    rw [List.length_set] at hi2
    by_cases e2:i2=j
    ·subst e2
     rw [if_pos rfl] at hx2
     obtain⟨h9|h9,h10⟩:=hF3 x hx2
     ·exact l3 i2 hi2 hne x hx h9
     ·have:=hF x (l1 x hx)
      omega
    ·rw [if_neg e2] at hx2
     exact l3 i2 hi2 hne x hx hx2
  ·rw [List.length_set] at hi
   rw [Nat.zero_add,List.getElem_set]
   by_cases e:i=j
   ·subst e
    rw [if_pos rfl]
    refine aB4 _ _ _ _ _ (fun _ _=>⟨rfl,rfl⟩) (fun _ _=>rfl) (fun x hx=>by rw [if_pos rfl];exact hx) hy
   ·rw [if_neg (fun e2=>e e2.symm)]
    have hk2:=aq3 h8 i hi
    rw [Nat.zero_add] at hk2
    obtain⟨l1,l2,l3⟩:=h7 i hi
    refine aB4 _ _ _ _ _ (fun a ha=>hkp.cel (i*5+a) (by omega)) (fun x hx=> ?_) (fun x hx=>by rw [if_neg e];exact hx) hk2
    exact hkp.blk x (hF x (l1 x hx)) (fun e2=>l2 (e2▸hx)) (fun e2=>l3 j hj (fun e3=>e e3.symm) x hx e2)
end
section
open Go.RowKit
structure OuT (w0:World) (q r:Nat) (ok:Int) (ot:ByteArray) (f u:Int) (vk:Value) (xs:List Nd) (wr:World):Prop where
 res:aa6 wr q 0 ⟨#[]⟩ (.slice none 0 0) 0 0
 out:aa6 wr r ok ot vk f u
 kr:af5 wr (r+1) wr.heap.size vk xs
 bel:Below w0.heap.size w0 wr
 hq:w0.heap.size≤q
 qr:q<r
theorem OuT.step {w0 wr w2 w3:World} {q r m:Nat} {ok:Int} {ot:ByteArray} {f u:Int} {vk:Value} {xs:List Nd} {x:Nd} {bu:Option Addr} {cu g cap1:Nat} {o:Obj} (h:OuT w0 q r ok ot f u vk xs wr)
  (hb2:Below wr.heap.size wr w2) (hru:aM1 w2 wr.heap.size w2.heap.size x bu cu) (hkr2:af5 w2 (r+1) wr.heap.size vk xs) (hlen:xs.length=m)
  (ho:w3.ownsRow (r+1) 27 5 (.slice (some ⟨g,0,none⟩) (m+1) cap1) (m+1) (hkr2.cells++(aa7 x.kind x.text bu x.kids.length cu x.from' x.till).toList))
  (hg:(w2.alloc o).grownBy w3 vk.ownBlock) (hat:vk.ownBlock=some g∨g=w2.heap.size+1):
  OuT w0 q r ok ot f u (.slice (some ⟨g,0,none⟩) (m+1) cap1) (xs++ [x]) (w3.setCell ⟨r,2,none⟩ (.slice (some ⟨g,0,none⟩) (m+1) cap1))∧Below r wr (w3.setCell ⟨r,2,none⟩ (.slice (some ⟨g,0,none⟩) (m+1) cap1)):=by
 have hown:=hkr2.own hlen
 have hqr:=h.qr
 have hwq:=h.hq
 have hrl:=h.out.lt
 have hs2:=hb2.size
 have hlow:Below r wr (w3.setCell ⟨r,2,none⟩ (.slice (some ⟨g,0,none⟩) (m+1) cap1)):=by
  have h3:Below r w2 w3:=by
   refine((Below.refl r w2).alloc (by omega) o).grown hg (by rw [World.size_alloc];omega) (fun i e=> ?_)
   have:=(hown.lt i e).1
   omega
  exact((hb2.mono (by omega)).trans h3).setCell (p:=⟨r,2,none⟩) (Nat.le_refl _) _
 have hkr:af5 w3 (r+1) w3.heap.size (.slice (some ⟨g,0,none⟩) (m+1) cap1) (xs++ [x]):=
  af5.push hkr2 hlen (by omega) (Nat.le_refl _) (fun i e=>((h.kr.own hlen).lt i e).2) (Nat.le_refl _) hs2 hru ho hg hat
 refine⟨⟨(hlow.block q (by omega)).trans h.res,?_,hkr.high (by simp [World.setCell]) (Nat.le_refl _) (fun i h1 _=>Below.heap_setCell _ _ _ _ (by show i≠r;omega)),h.bel.trans (hlow.mono (by omega)),hwq,hqr⟩,hlow⟩
 have h1:w3.heap[r]? =some (.cells #[.int .i64 ok,.string ot,vk,.int .i64 f,.int .i64 u] 27 (0,0)):=(push_far hg hown (by omega)).trans (h.out.bel hb2)
 exact heap_setCell_same w3 r 2 _ 27 (.slice (some ⟨g,0,none⟩) (m+1) cap1) h1
theorem OuT.done {w0 wr:World} {q r:Nat} {n:Nd} {vk:Value} (h:OuT w0 q r n.kind n.text n.from' n.till vk n.kids wr):
  ∃b' cap',vk= .slice b' n.kids.length cap'∧NdSp (lay5 wr q n.kind n.text (.slice b' n.kids.length cap') n.from' n.till) w0.heap.size (lay5 wr q n.kind n.text (.slice b' n.kids.length cap') n.from' n.till).heap.size n (.agg #[.int .i64 n.kind,.string n.text,.slice b' n.kids.length cap',.int .i64 n.from',.int .i64 n.till])∧
   Below w0.heap.size w0 (lay5 wr q n.kind n.text (.slice b' n.kids.length cap') n.from' n.till)∧aa6 (lay5 wr q n.kind n.text (.slice b' n.kids.length cap') n.from' n.till) q n.kind n.text (.slice b' n.kids.length cap') n.from' n.till:=by
 have h1:=h.hq
 have h2:=h.qr
 obtain⟨b',cap',hv,hc,hr⟩:=h.kr.row (Nat.le_refl _)
 refine⟨b',cap',hv,⟨b',cap',rfl,?_⟩,lay5_bel h.bel (by omega) _ _ _ _ _,h.res.lay⟩
 rw [al2]
 exact⟨hc,as3 (fun i h4=>ad6 _ _ _ _ _ _ _ _ (by omega)) (fun i h4=>⟨by omega,h4.2⟩) hr⟩
theorem bx1 {fn:Nat} {w0 wr W:World} {q r m:Nat} {ok:Int} {ot:ByteArray} {f u:Int} {vk:Value} {xs:List Nd} {x:Nd} {args:Array Value} (h:OuT w0 q r ok ot f u vk xs wr) (hm:xs.length=m) (hW:Below wr.heap.size wr W)
  (hc:Calls Tryz.prog fn args W fun e w'=> ∃u,e= .returned u∧NdSp w' W.heap.size w'.heap.size x u∧Below W.heap.size W w'):
  Calls Tryz.prog fn args W fun e w'=> ∃bu cu,e= .returned (.agg #[.int .i64 x.kind,.string x.text,.slice bu x.kids.length cu,.int .i64 x.from',.int .i64 x.till])∧aM1 w' wr.heap.size w'.heap.size x bu cu∧Below wr.heap.size wr w'∧
   af5 w' (r+1) wr.heap.size vk xs∧xs.length=m∧w'.cell? ⟨r,2,none⟩=some vk∧w'.frozen? ⟨r,2,none⟩=false∧r<w'.heap.size:=by
 refine hc.mono fun e w'=> ?_
 rintro⟨u,rfl,⟨bu,cu,rfl,hru⟩,hb⟩
 have hb2:=hW.trans (hb.mono hW.size)
 have ho:=h.out.bel hb2
 obtain⟨_,_,e2,_,_,_,_,f2,_,_⟩:=aa6.facts ho
 exact⟨bu,cu,rfl,hru.keep hW.size (Nat.le_refl _) (fun _ _ _=>rfl),hb2,h.kr.bel (Nat.le_refl _) hb2,hm,e2,f2,ho.lt⟩
theorem NdSp.zero (w:World) (L B:Nat):NdSp w L B .zero (.agg #[.int .i64 0,.string ⟨#[]⟩,.slice none 0 0,.int .i64 0,.int .i64 0]):=
 ⟨none,0,rfl,Nat.le_refl _,.inl rfl⟩
theorem bi3 (n:Nd): ∀(g o:Nat) (w:World) (L B:Nat),NdC w L B n g o→B≤w.heap.size→aa4 n≤4194304→
  Calls Tryz.prog 34 #[.pointer (some ⟨g,o,none⟩)] w fun e w'=> ∃u,e= .returned u∧NdSp w' w.heap.size w'.heap.size (ae8 n) u∧Below w.heap.size w w':=by
 induction n using Nd.indS with
 |h n ih=>
  intro g o w L B hn hB hsz
  have HIH:=hJ (fun(W:World) (x:Nd) (hx:aa4 x<aa4 n) (g o:Nat) (hu:NdC W L B x g o) (hW:B≤W.heap.size)=>ih x hx g o W L B hu hW (by omega))
  clear ih
  go_enter Tryz.func34,Tryz.ntmps34
  have hS:NdC (w.alloc (.cells #[.int .i64 0,.string ⟨#[]⟩,.slice none 0 0,.int .i64 0,.int .i64 0] 27)) L B n g o:=aC0 hn ((Below.alloc (Below.refl _ _) (Nat.le_refl _) _).mono hB)
  have hQ:aa6 (w.alloc (.cells #[.int .i64 0,.string ⟨#[]⟩,.slice none 0 0,.int .i64 0,.int .i64 0] 27)) w.heap.size 0 ⟨#[]⟩ (.slice none 0 0) 0 0:=heap_alloc_new _ _
  have hBl:Below w.heap.size w (w.alloc (.cells #[.int .i64 0,.string ⟨#[]⟩,.slice none 0 0,.int .i64 0,.int .i64 0] 27)):=Below.alloc (Below.refl _ _) (Nat.le_refl _) _
  obtain⟨i0,hi,hz0,hz1,hz2⟩:=info_parts bA4
  go_wp2_with fail
  generalize World.alloc w _=w1 at*
  generalize hq:w.heap.size=q at hS hQ
  have HQ:=hJ hq
  have HUN:=hJ (show UnB w q L B n (aa4 n) (.pointer (some ⟨g,o,none⟩)) w1 from⟨n,g,o,rfl,rfl,rfl,Nat.le_refl _,hS,hQ,hBl⟩)
  clear hq hS hQ hn hBl
  go_loopg [0] (aa4 n) (fun s v wr=>UnB w q L B n s v wr)
  case atStart=>exact HUN.out
  case round=>
   clear HUN
   obtain⟨m,g,o,hms,rfl,hbm,hle,hnc,hres,hbl⟩:=hrel
   have HMS:=hJ hms
   have HBM:=hJ hbm
   have HRES:=hJ hres
   have HBL:=hJ hbl
   have HNC:=hJ hnc
   rw [ai9] at hnc
   obtain⟨b1,cap1,hL1,hg1,d0,d1,d2,d3,d4,hcap1,hrow1⟩:=hnc
   have hgw:g<wr.heap.size:=Nat.lt_of_lt_of_le hg1 (Nat.le_trans hB hbl.size)
   obtain⟨x0,x1,x2,x3,x4,y0,y1,y2,y3,y4⟩:=aa6.facts hres
   have hkc:=aw0 m
   clear hms hbm hres hbl
   have HROW:=hJ hrow1
   clear hrow1
   by_cases hk:m.kind=26
   ·have e1:(m.kind==26)=true:=by rw [hk];rfl
    by_cases h0:m.kids.length=0
    ·have e2:(((m.kids.length:Nat):Int)==0)=true:=by rw [h0];rfl
     have HB:=hJ (show ae8 n= .zero by
      rw [←HBM.out,aC4,if_pos hk,List.length_eq_zero_iff.1 h0,aC3])
     clear hk h0
     go_wp2_with fail
     refine bodyPost_ret (results_nd rfl _ _ q rfl (HRES.out.lay (k:=0) (t:=⟨#[]⟩) (v:= .slice none 0 0) (f:=0) (u:=0))) rfl ?_
     refine⟨_,rfl,by rw [HB.out];exact NdSp.zero _ _ _,lay5_bel HBL.out (by have:=HQ.out;omega) _ _ _ _ _⟩
    ·have h00:0<m.kids.length:=by omega
     have e2:(((m.kids.length:Nat):Int)==0)=false:=by rw [beq_eq_false_iff_ne];omega
     obtain⟨g2,off,rfl,hgB,hkn⟩:=kidC HROW.out 0 h00
     have HKB:=hJ (show ae8 m.kids[0]=ae8 n by rw [←HBM.out,aC4 m,if_pos hk,aR8 h00])
     have HKS:=hJ (show aa4 m.kids[0]<gk by rw [←HMS.out];exact kid_size h00)
     have HGK:=hJ (show aa4 m.kids[0]≤aa4 n by have:=kid_size h00;omega)
     generalize m.kids[0]=x at*
     rw [Nat.zero_mul,Nat.add_zero] at hkn
     have HKN:=hJ hkn
     clear hk h0 hkn
     go_wp2_with fail
     go_roundg (aa4 x)
     case measure=>exact HKS.out
     case rel=>exact⟨x,g2,off,rfl,by simp,HKB.out,HGK.out,HKN.out,HRES.out,HBL.out⟩
   ·have e1:(m.kind==26)=false:=by rw [beq_eq_false_iff_ne];exact hk
    have HBE:=hJ (show ae8 n= .mk m.kind m.text (m.kids.map ae8) 0 0 by rw [←HBM.out,aC4,if_neg hk])
    clear hk
    go_upto_region 5 with fail
    go_region
    have hbd:Below wr.heap.size wr (wr.alloc (.cells #[.int .i64 m.kind,.string m.text,.slice none 0 0,.int .i64 0,.int .i64 0] 27)).drew:=Below.drew (Below.alloc (Below.refl _ _) (Nat.le_refl _) _)
    have hNC2:NdC (wr.alloc (.cells #[.int .i64 m.kind,.string m.text,.slice none 0 0,.int .i64 0,.int .i64 0] 27)).drew L B m g o:=aC0 HNC.out (hbd.mono (Nat.le_trans hB HBL.out.size))
    have hOU:OuT w q wr.heap.size m.kind m.text 0 0 (.slice none 0 0) ((m.kids.take 0).map ae8) (wr.alloc (.cells #[.int .i64 m.kind,.string m.text,.slice none 0 0,.int .i64 0,.int .i64 0] 27)).drew:=
     ⟨HRES.out.bel hbd,heap_alloc_new wr _,af5.nil _ _ _,aa0 HBL.out hbd,by have:=HQ.out;omega,HRES.out.lt⟩
    clear hbd
    generalize hw2:World.drew (World.alloc wr _)=w2 at*
    generalize hr:wr.heap.size=r at*
    have HS2:=hJ hNC2
    have HOU:=hJ hOU
    have HSZ:=hJ hle
    clear hw2 hr hNC2 hOU x0 x1 x2 x3 x4 y0 y1 y2 y3 y4 d0 d1 d2 d3 d4 HROW
    clear HRES HNC HBL
    have HST0:=hJ (show∃(b2:Option Addr) (cap2:Nat),w2.cell? ⟨g,o+2,none⟩=some (.slice b2 m.kids.length cap2)∧g<w2.heap.size from by
     have h:=HS2.out
     rw [ai9] at h
     obtain⟨b2,cap2,_,hg2,_,_,z2,_⟩:=h
     exact⟨b2,cap2,z2,Nat.lt_of_lt_of_le hg2 (Nat.le_trans hB HOU.out.bel.size)⟩)
    obtain⟨b2,cap2,z2,hgr⟩:=HST0.out
    clear HST0
    go_wp2_with fail
    clear z2
    go_loopw [36] (fun i wr=> ∃(k:Nat) (vk:Value),k≤m.kids.length∧i= .int .i64 k∧NdC wr L B m g o∧OuT w q r m.kind m.text 0 0 vk ((m.kids.take k).map ae8) wr) (fun i _=>m.kids.length - (intOf i).toNat)
    case atStart=>exact⟨0,_,Nat.zero_le _,rfl,HS2.out,HOU.out⟩
    case round=>
     clear HS2 HOU
     obtain⟨k,vk,hkl,rfl,hst,hou⟩:=hrel
     have HS3:=hJ hst
     have HO3:=hJ hou
     rw [ai9] at hst
     obtain⟨b3,cap3,_,hg3,d0,d1,d2,d3,d4,hcap3,hrow3⟩:=hst
     have hBw:=Nat.le_trans hB hou.bel.size
     have hgw3:g<wr.heap.size:=Nat.lt_of_lt_of_le hg3 hBw
     obtain⟨x0,x1,x2,x3,x4,y0,y1,y2,y3,y4⟩:=aa6.facts hou.out
     by_cases hlt:k<m.kids.length
     ·obtain⟨g2,off,rfl,hgB,hkn⟩:=kidC hrow3 k hlt
      have hkl2:((m.kids.take k).map ae8).length=k:=by rw [List.length_map,List.length_take];omega
      have HKS:=hJ (show aa4 m.kids[k]<aa4 n by have:=kid_size hlt;have:=HSZ.out;omega)
      have HCALL:=hJ (fun(W:World) (hW:Below wr.heap.size wr W)=>bx1 hou hkl2 hW (HIH.out W _ HKS.out _ _ (aC0 hkn (hW.mono hBw)) (Nat.le_trans hBw hW.size)))
      have HTK:=hJ (show(m.kids.take (k+1)).map ae8=(m.kids.take k).map ae8++ [ae8 m.kids[k]] by rw [List.take_succ_eq_append_getElem hlt,List.map_append];rfl)
      have hrl:=hou.out.lt
      have hBr:B≤r:=Nat.le_trans hB (Nat.le_trans hou.hq (Nat.le_of_lt hou.qr))
      have hwr:=Nat.le_trans hou.hq (Nat.le_of_lt hou.qr)
      generalize hys:(m.kids.take k).map ae8=ys at*
      generalize hyd:ae8 m.kids[k]=y at*
      generalize m.kids[k]=x at*
      have HKL:=hJ hkl2
      clear hou hkn hkl2 hys hyd HKS hrow3
      go_upto_region 9 with fail
      go_region_law (first|((go_simp;(with_reducible refine(HCALL.out _ (Below.drew (Below.refl _ _))).mono ?_);rintro e w2 ⟨bu,cu,rfl,hru,hb2,hkr2,hln2,e2,f2,hs2⟩;have HLN:=hJ hln2;clear hln2))|((refine step_append_lies _ (by rfl) _ _ _ (by rfl) (r+1) 27 i0 _ 5 64 (by kernel_rfl) hi hz0 hz1 hz2 (by rfl) (by decide) vk k hkr2.cells (by rfl) ((hkr2.own HLN.out).alloc _) ⟨w2.heap.size,0,none⟩ 1 1 [.int .i64 y.kind,.string y.text,.slice bu y.kids.length cu,.int .i64 y.from',.int .i64 y.till] (by rfl) (by rfl) (World.news_of_block (heap_alloc_new _ _)) five_one (by decide) (by unfold maxLen;omega) (by omega) (by rw [World.size_alloc];omega) (w2.heap.size+1) (by simp) ?_;intro g1 cap1 w3 hown3 hgrow3 hat3 hlt3;have b3:=push_far hgrow3 (hkr2.own HLN.out) hs2;have e3:=(World.cell?_of_block (a:=⟨r,2,none⟩) b3).trans e2;have f3:=(World.frozen?_of_block (a:=⟨r,2,none⟩) b3).trans f2)))
      all_goals
       have hst3:=OuT.step HO3.out hb2 hru hkr2 HKL.out hown3 hgrow3 hat3
       have HST3:=hJ hst3
       clear hst3 hown3 hgrow3 hat3 hkr2 hru hb2
       go_wp2_with fail
       go_roundw
       case rel=>exact⟨k+1,_,hlt,by go_num,aC0 HS3.out (HST3.out.2.mono hBr),by rw [HTK.out];exact HST3.out.1⟩
       case measure=>simp [intOf];omega
     ·obtain rfl:k=m.kids.length:=by omega
      rw [List.take_length] at hou
      obtain⟨b',cap',hvk,hnv,hbel,hbox⟩:=OuT.done (n:= .mk m.kind m.text (m.kids.map ae8) 0 0) hou
      simp only [Nd.kind,Nd.text,Nd.kids,Nd.from',Nd.till,List.length_map] at hvk hnv hbel hbox
      subst hvk
      obtain⟨u0,u1,u2,u3,u4,v0,v1,v2,v3,v4⟩:=aa6.facts hou.res
      have HNV:=hJ hnv
      have HBL:=hJ hbel
      have HBX:=hJ hbox
      clear hou hnv hbel hbox hrow3
      go_wp2_with fail
      refine bodyPost_ret (results_nd rfl _ _ q rfl HBX.out) rfl ?_
      exact⟨_,rfl,by rw [HBE.out];exact HNV.out,HBL.out⟩
theorem bh7 (n:Nd) (v:Value) (w:World) (L B:Nat) (hv:NdV w L B n v) (hB:B≤w.heap.size) (hsz:aa4 n≤4194304):
  Calls Tryz.prog 20 #[v] w fun e w'=> ∃u,e= .returned u∧NdSp w' w.heap.size w'.heap.size (aq0 n) u∧Below w.heap.size w w':=by
 obtain⟨b,cap,rfl,hcap,hrow⟩:=hv
 unfold aa7 at*
 have hba:=(ac0 w (.cells #[.int .i64 n.kind,.string n.text,.slice b n.kids.length cap,.int .i64 n.from',.int .i64 n.till] 27)).alloc (by simp) (.cells #[.int .i64 0,.string ⟨#[]⟩,.slice none 0 0,.int .i64 0,.int .i64 0] 27)
 have hbx:=(aq5 w n b cap).bel (ac0 _ (.cells #[.int .i64 0,.string ⟨#[]⟩,.slice none 0 0,.int .i64 0,.int .i64 0] 27)) (by simp)
 have hbq:aa6 ((w.alloc (.cells #[.int .i64 n.kind,.string n.text,.slice b n.kids.length cap,.int .i64 n.from',.int .i64 n.till] 27)).alloc (.cells #[.int .i64 0,.string ⟨#[]⟩,.slice none 0 0,.int .i64 0,.int .i64 0] 27)) (w.heap.size+1) 0 ⟨#[]⟩ (.slice none 0 0) 0 0:=by
  have:=heap_alloc_new (w.alloc (.cells #[.int .i64 n.kind,.string n.text,.slice b n.kids.length cap,.int .i64 n.from',.int .i64 n.till] 27)) (.cells #[.int .i64 0,.string ⟨#[]⟩,.slice none 0 0,.int .i64 0,.int .i64 0] 27)
  rw [World.size_alloc] at this
  exact this
 have HR:=hJ hrow
 clear hrow
 go_enter Tryz.func20,Tryz.ntmps20
 go_upto_region 1 with fail
 generalize World.alloc (World.alloc w _) _=w1 at*
 have HB:=hJ hba
 have HX:=hJ hbx
 have HQ:=hJ hbq
 have HN:=hJ (aE1 n w w1 L B _ b cap hba hB hbx hcap HR.out hsz)
 clear hba hbx hbq
 go_wp2_with fail
 refine HN.out.mono ?_
 rintro e w2 ⟨rfl,hb2⟩
 have HB2:=hJ (aa0 HB.out hb2)
 have HX2:=hJ (HX.out.bel hb2 HX.out.lt)
 have hbq2:=HQ.out.bel hb2
 clear hb2 HX HN
 obtain⟨x0,x1,x2,x3,x4,y0,y1,y2,y3,y4⟩:=aa6.facts hbq2
 have HQ2:=hJ hbq2
 have hql:=hbq2.lt
 by_cases hd:af3 n≤8000
 ·have HT:=hJ (show aq0 n=ae8 n by rw [aq0,if_pos hd])
  have hdd:(msE n !=0)=false:=by rw [msE,if_pos hd];rfl
  have HN:=hJ (bi3 n w.heap.size 0 w2 0 w2.heap.size (HX2.out.ndc hcap (ad5 HR.out (HB2.out.mono hB)) (Nat.le_trans hB HB2.out.size)) (Nat.le_refl _) hsz)
  clear hd hbq2
  go_wp2_with fail
  refine HN.out.mono ?_
  rintro e w3 ⟨u,rfl,hu,hb3⟩
  have HB3:=hJ (aa0 HB2.out hb3)
  have hbq3:=HQ2.out.bel hb3
  have HU:=hJ hu
  have HQ3:=hJ hbq3
  obtain⟨b4,cap4,rfl,_⟩:=hu
  clear hb3 x0 x1 x2 x3 x4 y0 y1 y2 y3 y4
  unfold aa7 at*
  obtain⟨x0,x1,x2,x3,x4,y0,y1,y2,y3,y4⟩:=aa6.facts hbq3
  have hql3:=hbq3.lt
  clear hbq3
  go_wp2_with fail
  refine bodyPost_ret (results_nd rfl _ _ (w.heap.size+1) rfl (HQ3.out.lay)) rfl ?_
  refine⟨_,rfl,?_,lay5_bel HB3.out (by omega) _ _ _ _ _⟩
  rw [HT.out]
  obtain⟨b5,cap5,e5,hr5⟩:=HU.out
  refine⟨b5,cap5,e5,hr5.keep HB2.out.size (Nat.le_of_eq (by simp [World.setCell])) (fun k h1 _=>ad6 _ _ _ _ _ _ _ _ (by omega))⟩
 ·have HT:=hJ (show aq0 n= .zero by rw [aq0,if_neg hd])
  have hdd:(msE n !=0)=true:=by rw [msE,if_neg hd];rfl
  clear hd hbq2
  go_wp2_with fail
  refine bodyPost_ret (results_nd rfl _ _ (w.heap.size+1) rfl (HQ2.out.lay)) rfl ?_
  refine⟨_,rfl,?_,lay5_bel HB2.out (by omega) _ _ _ _ _⟩
  rw [HT.out]
  exact NdSp.zero _ _ _
end
section
open Go.RowKit
structure Rc where
 nd:Nd
 b:Option Addr
 c:Nat
 F:Nat→Prop
structure Rcs (w:World) (F:Nat→Prop) (g:Nat) (rs:List Rc):Prop where
 cell: ∀j,(hj:j<rs.length)→∀i,i<5→w.cell? ⟨g,j*5+i,none⟩=(aa7 rs[j].nd.kind rs[j].nd.text rs[j].b rs[j].nd.kids.length rs[j].c rs[j].nd.from' rs[j].nd.till)[i]?
 ok: ∀r ∈ rs,r.nd.kids.length≤r.c∧SpX w r.nd.kids r.b r.F∧(∀x,r.F x→F x)∧¬r.F g
 sep:rs.Pairwise fun a b=> ∀x,a.F x→¬b.F x
theorem SpX.recs {w:World} {ks:List Nd} {b:Option Addr} {F:Nat→Prop} (h:SpX w ks b F): ∃rs:List Rc,rs.map (·.nd)=ks∧(rs= []∨∃g,b=some ⟨g,0,none⟩∧F g∧Rcs w F g rs):=by
 rcases h with h|⟨g2,Fs,h5,h6,h7,h8⟩
 ·exact⟨[],by rw [h];rfl,.inl rfl⟩
 ·have h9: ∀j,∃r:Rc,∀hj:j<ks.length,r.nd=ks[j]∧r.F=Fs j∧(∀i,i<5→w.cell? ⟨g2,j*5+i,none⟩=(aa7 ks[j].kind ks[j].text r.b ks[j].kids.length r.c ks[j].from' ks[j].till)[i]?)∧ks[j].kids.length≤r.c∧SpX w ks[j].kids r.b (Fs j):=by
   intro j
   by_cases hj:j<ks.length
   ·have hk:=aq3 h8 j hj
    rw [Nat.zero_add,ap7] at hk
    obtain⟨_,bj,cj,k1,k2,k3⟩:=hk
    exact⟨⟨ks[j],bj,cj,Fs j⟩,fun _=>⟨rfl,rfl,k1,k2,k3⟩⟩
   ·exact⟨⟨.zero,none,0,fun _=>False⟩,fun h=>absurd h hj⟩
  obtain⟨f,hf⟩: ∃f:Nat→Rc,∀j,∀hj:j<ks.length,(f j).nd=ks[j]∧(f j).F=Fs j∧(∀i,i<5→w.cell? ⟨g2,j*5+i,none⟩=(aa7 ks[j].kind ks[j].text (f j).b ks[j].kids.length (f j).c ks[j].from' ks[j].till)[i]?)∧ks[j].kids.length≤(f j).c∧SpX w ks[j].kids (f j).b (Fs j):=⟨fun j=>Classical.choose (h9 j),fun j=>Classical.choose_spec (h9 j)⟩
  have hlen:((List.range ks.length).map f).length=ks.length:=by simp
  have hget: ∀j,(hj:j<((List.range ks.length).map f).length)→((List.range ks.length).map f)[j]=f j:=fun j hj=>by simp
  refine⟨(List.range ks.length).map f,?_,.inr ⟨g2,h5,h6,⟨fun j hj i hi=> ?_,fun r hr=> ?_,?_⟩⟩⟩
  ·apply List.ext_getElem
   ·simp
   ·intro j h1 h2
    simp only [List.getElem_map,List.getElem_range]
    exact(hf j h2).1
  ·rw [hget j hj]
   have hj2:j<ks.length:=by rw [←hlen];exact hj
   obtain⟨e,_,k1,_⟩:=hf j hj2
   rw [e]
   exact k1 i hi
  ·obtain⟨j,hj,rfl⟩:=List.mem_map.1 hr
   have hj2:=List.mem_range.1 hj
   obtain⟨e,eF,_,k2,k3⟩:=hf j hj2
   rw [e,eF]
   exact⟨k2,k3,(h7 j hj2).1,(h7 j hj2).2.1⟩
  ·rw [List.pairwise_iff_getElem]
   intro i j hi hj hij x hx hx2
   rw [hget i hi] at hx
   rw [hget j hj] at hx2
   have hi2:i<ks.length:=by rw [←hlen];exact hi
   have hj2:j<ks.length:=by rw [←hlen];exact hj
   rw [(hf i hi2).2.1] at hx
   rw [(hf j hj2).2.1] at hx2
   exact(h7 i hi2).2.2 j hj2 (by omega) x hx hx2
def rcB (rs:List Rc):List (Option Addr × Nat):=rs.map fun r=>(r.b,r.c)
def rcN (rs:List Rc):List Nd:=rs.map (·.nd)
theorem SpX.of_recs {w w':World} {F:Nat→Prop} {base:Nat} {v:Value} {rs:List Rc} (ho:w'.ownsRow base 27 5 v rs.length (ad2 (rcN rs) (rcB rs))) (hF: ∀x,F x→x<base∧w'.heap[x]? =w.heap[x]?)
  (hok: ∀r ∈ rs,r.nd.kids.length≤r.c∧SpX w r.nd.kids r.b r.F∧(∀x,r.F x→F x)) (hsep:rs.Pairwise fun a b=> ∀x,a.F x→¬b.F x):
  ∃b cap,v= .slice b rs.length cap∧rs.length≤cap∧SpX w' (rcN rs) b (fun x=>F x∨(base≤x∧x<w'.heap.size)):=by
 have hl:(rcB rs).length=(rcN rs).length:=by simp [rcB,rcN]
 have hn:(rcN rs).length=rs.length:=by simp [rcN]
 rcases ho.2 with ⟨rfl,h0⟩|⟨g,cap,cur,rfl,hg,hc,hncap,hrest⟩
 ·have:rs= []:=List.length_eq_zero_iff.1 h0
  subst this
  exact⟨none,0,rfl,Nat.le_refl _,.inl rfl⟩
 ·have hlt:=(Array.getElem?_eq_some_iff.1 hc).1
  refine⟨_,cap,rfl,hncap,.inr ⟨g,fun j x=> ∃hj:j<rs.length,rs[j].F x,rfl,.inr ⟨hg,hlt⟩,fun j hj=> ?_,aH6 fun j hj=> ?_⟩⟩
  ·rw [hn] at hj
   obtain⟨_,_,k3⟩:=hok rs[j] (List.getElem_mem hj)
   refine⟨fun x ⟨_,hx⟩=> .inl (k3 x hx),fun⟨_,hx⟩=> ?_,fun i hi hne x ⟨_,hx⟩ ⟨hi2,hx2⟩=> ?_⟩
   ·have:=(hF g (k3 g hx)).1
    omega
   ·have hp:=List.pairwise_iff_getElem.1 hsep
    rcases Nat.lt_or_gt_of_ne hne with h|h
    ·exact hp i j hi2 hj h x hx2 hx
    ·exact hp j i hj hi2 h x hx hx2
  ·rw [hn] at hj
   obtain⟨k1,k2,k3⟩:=hok rs[j] (List.getElem_mem hj)
   have e1:(rcN rs)[j]'(by rw [hn];exact hj)=rs[j].nd:=by simp [rcN]
   have e2:(rcB rs)[j]'(by rw [hl,hn];exact hj)=(rs[j].b,rs[j].c):=by simp [rcB]
   rw [ap7,Nat.zero_add,e1]
   refine⟨fun i hi=>frozen_of_row w' g _ _ _ hc,rs[j].b,rs[j].c,fun i hi=> ?_,k1,?_⟩
   ·rw [ho.cellAt (j*5+i) (by omega)]
    have:=am5 (rcN rs) (rcB rs) hl j i (by rw [hn];exact hj) hi
    rw [e1,e2] at this
    exact this
   ·exact as3 (fun x hx=>(hF x (k3 x hx)).2) (fun x hx=>⟨hj,hx⟩) k2
end
section
open Go.RowKit
def at7 (P:Nd→Bool) (rs:List Rc):List Rc:=rs.filter fun r=>P r.nd
structure KeS (w wr:World) (g o:Nat) (F:Nat→Prop) (n:Nd) (v:Value) (zs:List Rc):Prop where
 c0:wr.cell? ⟨g,o,none⟩=some (.int .i64 n.kind)
 c1:wr.cell? ⟨g,o+1,none⟩=some (.string n.text)
 c2:wr.cell? ⟨g,o+2,none⟩=some v
 c3:wr.cell? ⟨g,o+3,none⟩=some (.int .i64 n.from')
 c4:wr.cell? ⟨g,o+4,none⟩=some (.int .i64 n.till)
 fz: ∀i,i<5→wr.frozen? ⟨g,o+i,none⟩=false
 own:wr.ownsRow w.heap.size 27 5 v zs.length (ad2 (rcN zs) (rcB zs))
 kp:Kp w wr F g o
 old: ∀x,F x→wr.heap[x]? =w.heap[x]?
 lt:g<w.heap.size
theorem bx2 {w:World} {base g cap n:Nat} {xs:List Value} {a b c d e:Value} (h:w.ownsRow base 27 5 (.slice (some ⟨g,0,none⟩) (n+1) cap) (n+1) (xs++ [a,b,c,d,e])):
  base≤g∧g<w.heap.size∧w.cell? ⟨g,n*5,none⟩=some a∧w.cell? ⟨g,n*5+1,none⟩=some b∧w.cell? ⟨g,n*5+2,none⟩=some c∧w.cell? ⟨g,n*5+3,none⟩=some d∧w.cell? ⟨g,n*5+4,none⟩=some e∧∀i,w.frozen? ⟨g,i,none⟩=false:=by
 have hl:xs.length=n*5:=by have:=h.1;rw [List.length_append] at this;simp at this;omega
 have hc: ∀i,i<5→w.cell? ⟨g,n*5+i,none⟩=([a,b,c,d,e]:List Value)[i]? :=fun i hi=>by
  rw [h.cellAt (n*5+i) (by omega),List.getElem?_append_right (by omega),hl,Nat.add_sub_cancel_left]
 rcases h.2 with ⟨e0,_⟩|⟨g',cap',cur,e1,h2,h3,_⟩
 ·cases e0
 ·obtain rfl:g=g':=by injection e1 with e1;injection e1 with e1;injection e1
  exact⟨h2,(Array.getElem?_eq_some_iff.1 h3).1,hc 0 (by decide),hc 1 (by decide),hc 2 (by decide),hc 3 (by decide),hc 4 (by decide),fun i=>frozen_of_row w g i _ _ h3⟩
theorem KeS.form {w wr:World} {g o:Nat} {F:Nat→Prop} {n:Nd} {v:Value} {zs:List Rc} (h:KeS w wr g o F n v zs): ∃bv cv,v= .slice bv zs.length cv:=by
 rcases h.own.2 with ⟨rfl,h0⟩|⟨g,cap,cur,rfl,_⟩
 ·exact⟨none,0,by rw [h0]⟩
 ·exact⟨_,cap,rfl⟩
theorem bt3 {w w2 w3:World} {o:Obj} {v:Value} {m g:Nat} {ys:List Value} (hg:(w2.alloc o).drew.grownBy w3 v.ownBlock) (ho:w2.ownsRow w.heap.size 27 5 v m ys) (hw:g<w.heap.size) (hr:g<w2.heap.size):w3.heap[g]? =w2.heap[g]? :=by
 refine(hg.block g (by show g<(World.alloc w2 o).heap.size;rw [World.size_alloc];omega) (fun e=> ?_)).trans (Below.heap_alloc _ _ _ hr)
 have:=(ho.lt g e.symm).1
 omega
theorem KeS.start {w:World} {n:Nd} {g o:Nat} {F:Nat→Prop} (h:SpC w n g o F) (hg: ¬F g) (hlt:g<w.heap.size):KeS w (w.setCell ⟨g,o+2,none⟩ (.slice none 0 0)) g o F n (.slice none 0 0) []:=by
 obtain⟨b,cap,d0,d1,d2,d3,d4,f0,f1,f2,f3,f4,_,_⟩:=h.facts
 refine⟨?_,?_,World.cell?_setCell_same _ _ _ d2,?_,?_,fun i hi=> ?_,World.ownsRow_nil _ _ _ _,Kp.setCell (by decide),fun x hx=>Below.heap_setCell _ _ _ _ (fun(e:x=g)=>hg (e▸hx)),hlt⟩
 ·rw [World.cell?_setCell_other _ _ _ _ (fun e=>by injection e with _ e;omega)];exact d0
 ·rw [World.cell?_setCell_other _ _ _ _ (fun e=>by injection e with _ e;omega)];exact d1
 ·rw [World.cell?_setCell_other _ _ _ _ (fun e=>by injection e with _ e;omega)];exact d3
 ·rw [World.cell?_setCell_other _ _ _ _ (fun e=>by injection e with _ e;omega)];exact d4
 ·rw [World.frozen?_setCell]
  match i,hi with
  |0,_=>exact f0
  |1,_=>exact f1
  |2,_=>exact f2
  |3,_=>exact f3
  |4,_=>exact f4
theorem Kp.of_low {w w':World} {g o B:Nat} (h:Below B w w') (hg:g<B):Kp w w' (fun x=>B≤x) g o:=
 ⟨h.os,h.tape,h.output,h.size,fun k _ _ hk=>h.block k (by omega),fun _ _=>⟨World.cell?_of_block (h.block g hg),World.frozen?_of_block (h.block g hg)⟩⟩
theorem KeS.step {w w2 w3:World} {g o zl g1 cap1:Nat} {F:Nat→Prop} {n:Nd} {v:Value} {zs:List Rc} {r:Rc} (h:KeS w w2 g o F n v zs) (hzl:zs.length=zl) (hF: ∀x,F x→x<w.heap.size) (hg: ¬F g) (h1:w.heap.size≤g1)
  (ho:w3.ownsRow w.heap.size 27 5 (.slice (some ⟨g1,0,none⟩) (zl+1) cap1) (zl+1) (ad2 (rcN zs) (rcB zs)++ [.int .i64 0,.string ⟨#[]⟩,.slice none 0 0,.int .i64 0,.int .i64 0])) (hb:Below w.heap.size w2 w3):
  KeS w ((((((w3.setCell ⟨g1,zl*5,none⟩ (.int .i64 r.nd.kind)).setCell ⟨g1,zl*5+1,none⟩ (.string r.nd.text)).setCell ⟨g1,zl*5+2,none⟩ (.slice r.b r.nd.kids.length r.c)).setCell ⟨g1,zl*5+3,none⟩ (.int .i64 r.nd.from')).setCell ⟨g1,zl*5+4,none⟩ (.int .i64 r.nd.till)).setCell ⟨g,o+2,none⟩ (.slice (some ⟨g1,0,none⟩) (zl+1) cap1)) g o F n (.slice (some ⟨g1,0,none⟩) (zl+1) cap1) (zs++ [r]):=by
 have hl:(ad2 (rcN zs) (rcB zs)).length=zl*5:=by rw [az9 _ _ (by simp [rcB,rcN])];simp [rcN,hzl]
 have hset: ∀(i:Nat) (ys:List Value) (u:Value),(ad2 (rcN zs) (rcB zs)++ys).set (zl*5+i) u=ad2 (rcN zs) (rcB zs)++ys.set i u:=fun i ys u=>by
  rw [List.set_append_right _ _ (by omega),hl,Nat.add_sub_cancel_left]
 have o5:=ae3 (ae3 (ae3 (ae3 (ae3 ho (zl*5+0) (.int .i64 r.nd.kind)) (zl*5+1) (.string r.nd.text)) (zl*5+2) (.slice r.b r.nd.kids.length r.c)) (zl*5+3) (.int .i64 r.nd.from')) (zl*5+4) (.int .i64 r.nd.till)
 rw [hset,hset,hset,hset,hset] at o5
 have b5:=((((hb.setCell (p:=⟨g1,zl*5,none⟩) h1 (.int .i64 r.nd.kind)).setCell (p:=⟨g1,zl*5+1,none⟩) h1 (.string r.nd.text)).setCell (p:=⟨g1,zl*5+2,none⟩) h1 (.slice r.b r.nd.kids.length r.c)).setCell (p:=⟨g1,zl*5+3,none⟩) h1 (.int .i64 r.nd.from')).setCell (p:=⟨g1,zl*5+4,none⟩) h1 (.int .i64 r.nd.till)
 change World.ownsRow ((((((w3.setCell ⟨g1,zl*5,none⟩ (.int .i64 r.nd.kind)).setCell ⟨g1,zl*5+1,none⟩ (.string r.nd.text)).setCell ⟨g1,zl*5+2,none⟩ (.slice r.b r.nd.kids.length r.c)).setCell ⟨g1,zl*5+3,none⟩ (.int .i64 r.nd.from')).setCell ⟨g1,zl*5+4,none⟩ (.int .i64 r.nd.till))) _ _ _ _ _ _ at o5
 generalize World.setCell (World.setCell (World.setCell (World.setCell (World.setCell w3 _ _) _ _) _ _) _ _) _ _=w5 at*
 have hbg:=b5.block g h.lt
 have hne: ∀i,i≠2→(⟨g,o+i,none⟩:Addr)≠⟨g,o+2,none⟩:=fun i hi e=>by injection e with _ e;omega
 refine⟨?_,?_,World.cell?_setCell_same _ _ _ ((World.cell?_of_block hbg).trans h.c2),?_,?_,fun i hi=> ?_,?_,(h.kp.trans (Kp.of_low b5 h.lt) (fun x hx=> .inr hx)).trans (Kp.setCell (by decide)) (fun x hx=> .inl hx),fun x hx=> ?_,h.lt⟩
 ·rw [World.cell?_setCell_other _ _ _ _ (by intro e;injection e with _ e;omega)];exact(World.cell?_of_block hbg).trans h.c0
 ·rw [World.cell?_setCell_other _ _ _ _ (hne 1 (by decide)).symm];exact(World.cell?_of_block hbg).trans h.c1
 ·rw [World.cell?_setCell_other _ _ _ _ (hne 3 (by decide)).symm];exact(World.cell?_of_block hbg).trans h.c3
 ·rw [World.cell?_setCell_other _ _ _ _ (hne 4 (by decide)).symm];exact(World.cell?_of_block hbg).trans h.c4
 ·rw [World.frozen?_setCell];exact(World.frozen?_of_block (a:=⟨g,o+i,none⟩) hbg).trans (h.fz i hi)
 ·have o6:=ownsRow_setCell_below o5 (a:=⟨g,o+2,none⟩) h.lt (.slice (some ⟨g1,0,none⟩) (zl+1) cap1)
  rw [List.length_append,List.length_singleton,hzl,show rcN (zs++ [r])=rcN zs++ [r.nd] by simp [rcN],show rcB (zs++ [r])=rcB zs++ [(r.b,r.c)] by simp [rcB],ak6 _ _ _ _ (by simp [rcB,rcN])]
  exact o6
 ·exact(Below.heap_setCell _ _ _ _ (fun(e:x=g)=>hg (e▸hx))).trans ((b5.block x (hF x hx)).trans (h.old x hx))
theorem by6 (w:World) {a b:Addr} (h:a.block≠b.block) (u v:Value):(w.setCell a u).setCell b v=(w.setCell b v).setCell a u:=by
 unfold World.setCell
 congr 1
 apply Array.ext_getElem?
 intro k
 simp only [Array.getElem?_modify]
 by_cases h1:a.block=k
 ·by_cases h2:b.block=k
  ·exact absurd (h1.trans h2.symm) h
  ·simp only [if_pos h1,if_neg h2]
 ·by_cases h2:b.block=k
  ·simp only [if_neg h1,if_pos h2]
  ·simp only [if_neg h1,if_neg h2]
theorem bp6 (w:World) {g g1 a b:Nat} (h:g≠g1) (s u0 u1 u2 u3 u4:Value):((((((w.setCell ⟨g,a,none⟩ s).setCell ⟨g1,b,none⟩ u0).setCell ⟨g1,b+1,none⟩ u1).setCell ⟨g1,b+2,none⟩ u2).setCell ⟨g1,b+3,none⟩ u3).setCell ⟨g1,b+4,none⟩ u4)=((((((w.setCell ⟨g1,b,none⟩ u0).setCell ⟨g1,b+1,none⟩ u1).setCell ⟨g1,b+2,none⟩ u2).setCell ⟨g1,b+3,none⟩ u3).setCell ⟨g1,b+4,none⟩ u4).setCell ⟨g,a,none⟩ s):=by
 have k:=fun(W:World) (i:Nat) (u:Value)=>by6 W (a:=⟨g,a,none⟩) (b:=⟨g1,i,none⟩) h s u
 rw [k,k,k,k,k]
theorem KeS.done {P:Nd→Bool} {w wr:World} {g o:Nat} {F:Nat→Prop} {n:Nd} {v:Value} {rs:List Rc} {b:Option Addr} (h:KeS w wr g o F n v (at7 P rs)) (hrs:rs.map (·.nd)=n.kids) (hrow:rs= []∨∃g,b=some ⟨g,0,none⟩∧F g∧Rcs w F g rs) (hF: ∀x,F x→x<w.heap.size):
  Kp w wr F g o∧SpC wr (.mk n.kind n.text (n.kids.filter P) n.from' n.till) g o (fun x=>F x∨(w.heap.size≤x∧x<wr.heap.size)):=by
 refine⟨h.kp,?_⟩
 have hk:rcN (at7 P rs)=n.kids.filter P:=by
  rw [←hrs,List.filter_map]
  rfl
 have hok:(∀r ∈ at7 P rs,r.nd.kids.length≤r.c∧SpX w r.nd.kids r.b r.F∧(∀x,r.F x→F x))∧(at7 P rs).Pairwise fun a b=> ∀x,a.F x→¬b.F x:=by
  rcases hrow with rfl|⟨g2,_,_,hrc⟩
  ·exact⟨fun r hr=>(by cases hr),List.Pairwise.nil⟩
  ·exact⟨fun r hr=>by obtain⟨a1,a2,a3,_⟩:=hrc.ok r (List.mem_filter.1 hr).1;exact⟨a1,a2,a3⟩,hrc.sep.filter _⟩
 obtain⟨b',cap,rfl,hcap,hx⟩:=SpX.of_recs h.own (fun x hx=>⟨hF x hx,h.old x hx⟩) hok.1 hok.2
 have hlen:(n.kids.filter P).length=(at7 P rs).length:=by rw [←hk];simp [rcN]
 rw [ap7]
 refine⟨h.fz,b',cap,fun i hi=> ?_,by show(n.kids.filter P).length≤cap;omega,by show SpX wr (n.kids.filter P) b' _;rw [←hk];exact hx⟩
 show _=(aa7 n.kind n.text b' (n.kids.filter P).length cap n.from' n.till)[i]?
 rw [hlen]
 match i,hi with
 |0,_=>exact h.c0
 |1,_=>exact h.c1
 |2,_=>exact h.c2
 |3,_=>exact h.c3
 |4,_=>exact h.c4
theorem ba0 (k:FuncId) (P:Nd→Bool) (hk: ∀(a:Value) (W:World),(callFunc k #[a]).run Tryz.prog W= .ok (.enter k #[a]) W) (hone: ∀(w:World) (g o:Nat) (n:Nd) (b:Option Addr) (cap:Nat),(∀i,i<5→w.cell? ⟨g,o+i,none⟩=(aa7 n.kind n.text b n.kids.length cap n.from' n.till)[i]?)→Calls Tryz.prog k #[.pointer (some ⟨g,o,none⟩)] w fun e w'=>e= .returned (.bool (P n))∧w'=w)
  (n:Nd) (g o:Nat) (F:Nat→Prop) (w:World) (hs:SpC w n g o F) (hg: ¬F g) (hF: ∀x,F x→x<w.heap.size) (hlt:g<w.heap.size) (hsz:n.kids.length≤4194304):
  Calls Tryz.prog 39 #[.pointer (some ⟨g,o,none⟩),.func (Fn.func k) #[] #[]] w fun e w'=>e= .returned (.tuple #[])∧Kp w w' F g o∧SpC w' (.mk n.kind n.text (n.kids.filter P) n.from' n.till) g o (fun x=>F x∨(w.heap.size≤x∧x<w'.heap.size)):=by
 obtain⟨b,cap,d0,d1,d2,d3,d4,f0,f1,f2,f3,f4,hcap,hx⟩:=hs.facts
 obtain⟨rs,hrs,hrow⟩:=hx.recs
 have HK:=hJ (KeS.start hs hg hlt)
 have HO:=hJ hone
 have HRS:=hJ hrs
 have HROW:=hJ hrow
 obtain⟨m,hm⟩: ∃m,n.kids.length=m:=⟨_,rfl⟩
 rw [hm] at d2 hsz hcap
 have HM:=hJ hm
 obtain⟨i0,hi,hz0,hz1,hz2⟩:=info_parts bA4
 clear hs hx hrs hrow hone hm
 go_enter Tryz.func39,Tryz.ntmps39
 go_wp2_with fail
 clear d0 d1 d2 d3 d4 f0 f1 f2 f3 f4
 generalize World.setCell w _ _=w1 at*
 go_loopw [5,15] (fun _ i wr=> ∃(j:Nat) (v:Value),j≤m∧i= .int .i64 (j:Nat)∧KeS w wr g o F n v (at7 P (rs.take j))) (fun _ i _=>m - (intOf i).toNat)
 case atStart=>exact⟨0,_,Nat.zero_le _,rfl,HK.out⟩
 case round=>
  clear HK
  obtain⟨j,v,hj,rfl,hke⟩:=hrel
  have HK:=hJ hke
  obtain⟨e0,e1,e2,e3,e4,efz,eown,ekp,eold,_⟩:=hke
  by_cases hjm:j<m
  ·have hrl:rs.length=m:=by rw [←HM.out,←HRS.out,List.length_map]
   have hjr:j<rs.length:=by omega
   rcases HROW.out with h0|⟨g2,rfl,hFg,hrc⟩
   ·rw [h0] at hjr
    exact absurd hjr (by simp)
   have hcell: ∀i,i<5→wr.cell? ⟨g2,j*5+i,none⟩=(aa7 rs[j].nd.kind rs[j].nd.text rs[j].b rs[j].nd.kids.length rs[j].c rs[j].nd.from' rs[j].nd.till)[i]? :=fun i hi=>(World.cell?_of_block (eold g2 hFg)).trans (hrc.cell j hjr i hi)
   have HC:=hJ hcell
   have HTK:=hJ (show at7 P (rs.take (j+1))=at7 P (rs.take j)++(if P rs[j].nd then [rs[j]] else []) by
    unfold at7
    rw [List.take_succ_eq_append_getElem hjr,List.filter_append]
    congr 1
    rw [List.filter_cons,List.filter_nil])
   have HZL:=hJ (show(at7 P (rs.take j)).length≤j from Nat.le_trans (List.length_filter_le _ _) (by rw [List.length_take];omega))
   generalize rs[j]=r at*
   generalize at7 P (rs.take j)=zs at*
   have hlt3:g2<wr.heap.size:=Nat.lt_of_lt_of_le (hF g2 hFg) ekp.size
   have hlt4:g<wr.heap.size:=Nat.lt_of_lt_of_le hlt ekp.size
   obtain⟨k0,k1,k2,k3,k4⟩:wr.cell? ⟨g2,j*5,none⟩=some (.int .i64 r.nd.kind)∧wr.cell? ⟨g2,j*5+1,none⟩=some (.string r.nd.text)∧wr.cell? ⟨g2,j*5+2,none⟩=some (.slice r.b r.nd.kids.length r.c)∧wr.cell? ⟨g2,j*5+3,none⟩=some (.int .i64 r.nd.from')∧wr.cell? ⟨g2,j*5+4,none⟩=some (.int .i64 r.nd.till):=⟨hcell 0 (by decide),hcell 1 (by decide),hcell 2 (by decide),hcell 3 (by decide),hcell 4 (by decide)⟩
   obtain⟨bv,cv,rfl⟩:=HK.out.form
   obtain⟨zl,hzl⟩: ∃zl,zs.length=zl:=⟨_,rfl⟩
   rw [hzl] at e2 eown
   have hzlj:zl≤j:=by rw [←hzl];exact HZL.out
   have HZE:=hJ hzl
   rw [hzl] at HK
   clear hcell hrc hzl
   go_wp2_with fail
   refine(HO.out _ g2 (j*5) r.nd r.b r.c HC.out).mono ?_
   rintro e w2 ⟨rfl,rfl⟩
   cases hP:P r.nd with
   |false=>
    have HT2:=hJ (show at7 P (rs.take (j+1))=zs by rw [HTK.out,hP];simp)
    go_wp2_with fail
    go_roundw
    case rel=>exact⟨j+1,_,hjm,by go_num,by rw [HT2.out];exact HK.out⟩
    case measure=>simp [intOf];omega
   |true=>
    have HT2:=hJ (show at7 P (rs.take (j+1))=zs++ [r] by rw [HTK.out,hP];rfl)
    go_upto_region 6 with fail
    have hz1l:((zl:Nat):Int)<((zl:Nat):Int)+1:=by omega
    have hlt5:g<w2.heap.size:=hlt4
    go_region_law (refine step_append_lies _ (by rfl) _ _ _ (by rfl) w.heap.size 27 i0 _ 5 64 (by kernel_rfl) hi hz0 hz1 hz2 (by rfl) (by decide) (.slice bv zl cv) zl (ad2 (rcN zs) (rcB zs)) (by rfl) (eown.alloc _) ⟨w2.heap.size,0,none⟩ 1 1 [.int .i64 0,.string ⟨#[]⟩,.slice none 0 0,.int .i64 0,.int .i64 0] (by rfl) (by rfl) (World.news_of_block (heap_alloc_new _ _)) five_one (by decide) (by unfold maxLen;omega) (by omega) (by show w.heap.size≤(World.alloc w2 _).heap.size;rw [World.size_alloc];have:=ekp.size;omega) (w2.heap.size+1) (by show(World.alloc w2 _).heap.size=_;rw [World.size_alloc]) ?_;intro g1 cap1 w3 hown3 hgrow3 hat3 hlt3;obtain⟨l1,l2,z0,z1,z2,z3,z4,zf⟩:=bx2 hown3;have y0:=zf (zl*5);have y1:=zf (zl*5+1);have y2:=zf (zl*5+2);have y3:=zf (zl*5+3);have y4:=zf (zl*5+4);have hgg:g1≠g:=(by omega);have b3:=bt3 hgrow3 eown hlt hlt5;have s2:=(World.cell?_of_block (a:=⟨g,o+2,none⟩) b3).trans e2;have t2:=(World.frozen?_of_block (a:=⟨g,o+2,none⟩) b3).trans (efz 2 (by decide)))
    all_goals
     have hb3:Below w.heap.size w2 w3:=(Below.drew ((Below.refl w.heap.size w2).alloc ekp.size _)).grown hgrow3 (by show w.heap.size≤(World.alloc w2 _).heap.size;rw [World.size_alloc];have:=ekp.size;omega) (fun i e=>(eown.lt i e).1)
     have HK2:=hJ (KeS.step (r:=r) HK.out HZE.out hF hg l1 hown3 hb3)
     rw [←HT2.out] at HK2
     clear e0 e1 e2 e3 e4 efz eown ekp eold k0 k1 k2 k3 k4 z0 z1 z2 z3 z4 zf y0 y1 y2 y3 y4 s2 t2 b3 hb3 hown3 hgrow3
     try go_wp2_with fail
     refine⟨⟨j+1,.slice (some ⟨g1,0,none⟩) (zl+1) cap1,hjm,by go_num,?_⟩,by simp [intOf];omega⟩
     try rw [bp6 _ (fun e=>hgg e.symm)]
     exact HK2.out
  ·have hjm2:j=m:=by omega
   subst hjm2
   have HZ:=hJ (show at7 P (rs.take j)=at7 P rs by rw [List.take_of_length_le (by rw [←HM.out,←HRS.out,List.length_map];exact Nat.le_refl _)])
   rw [HZ.out] at HK
   clear e0 e1 e2 e3 e4 efz eown ekp eold
   go_wp2_with fail
   go_end0
   exact⟨rfl,HK.out.done HRS.out HROW.out hF⟩
end
section
open Go.RowKit
def escN (l:List UInt8):Nat:=if l.head? =some 120 then 2 else 4
def bC3 (l:List UInt8):Bool:=(decide (l.head? =some 120)||decide (l.head? =some 117)) && decide (escN l<l.length) && ((l.drop 1).take (escN l)).all (fun c=>decide (0≤hexD c))
def aJ9 (q:UInt8):Nat→List UInt8→Option (List Nat)
 |0,_=>none
 |_+1,[]=>none
 |f+1,c::l=>
  if c=q then (if l= [] then some [] else none)
  else if c=92 then (if bC3 l=true then (aJ9 q f ((l.drop 1).drop (escN l))).map (hexV 0 ((l.drop 1).take (escN l)):: ·) else none)
  else if 32≤c.toNat∧c.toNat<127 then (aJ9 q f l).map (c.toNat:: ·)
  else if 128≤(nx (c::l)).1∧(nx (c::l)).1<55296∧1≤(nx (c::l)).2∧(nx (c::l)).2≤4 then (aJ9 q f ((c::l).drop (nx (c::l)).2.toNat)).map ((nx (c::l)).1.toNat:: ·)
  else none
theorem LitV.esc {q:UInt8} {l:List UInt8} {vs:List Nat} (h:bC3 l=true) (hv:LitV q ((l.drop 1).drop (escN l)) vs):LitV q (92::l) (hexV 0 ((l.drop 1).take (escN l))::vs):=by
 unfold bC3 at h
 rw [Bool.and_eq_true,Bool.and_eq_true,Bool.or_eq_true,decide_eq_true_eq,decide_eq_true_eq,decide_eq_true_eq] at h
 obtain⟨⟨h1,h2⟩,h3⟩:=h
 have ha: ∀c ∈ (l.drop 1).take (escN l),0≤hexD c:=fun c hc=>of_decide_eq_true (List.all_eq_true.1 h3 c hc)
 cases l with
 |nil=>rcases h1 with h1|h1<;>cases h1
 |cons b l=>
  rcases h1 with h1|h1<;>injection h1 with h1<;>subst h1
  ·match l,h2 with
   |a::b::l,_=>exact .x a b l vs (ha a (by simp [escN])) (ha b (by simp [escN])) hv
  ·match l,h2 with
   |a::b::c::d::l,_=>exact .u a b c d l vs (ha a (by simp [escN])) (ha b (by simp [escN])) (ha c (by simp [escN])) (ha d (by simp [escN])) hv
theorem as7 {q:UInt8} : ∀(f:Nat) (l:List UInt8) (vs:List Nat),aJ9 q f l=some vs→LitV q l vs
 |0,_,_,h=>by cases h
 |_+1,[],_,h=>by cases h
 |f+1,c::l,vs,h=>by
  rw [aJ9] at h
  by_cases hc:c=q
  ·rw [if_pos hc] at h
   by_cases hl:l= []
   ·rw [if_pos hl] at h
    cases h
    subst hc
    subst hl
    exact .done
   ·rw [if_neg hl] at h
    cases h
  ·rw [if_neg hc] at h
   by_cases h9:c=92
   ·rw [if_pos h9] at h
    subst h9
    split at h
    ·rename_i h1
     obtain⟨v,h2,h3⟩:=Option.map_eq_some_iff.1 h
     subst h3
     exact .esc h1 (as7 f _ _ h2)
    ·cases h
   ·rw [if_neg h9] at h
    split at h
    ·rename_i h1
     obtain⟨v,h2,h3⟩:=Option.map_eq_some_iff.1 h
     subst h3
     exact .plain c l v h1.1 h1.2 hc h9 (as7 f _ _ h2)
    ·split at h
     ·rename_i h1
      obtain⟨v,h2,h3⟩:=Option.map_eq_some_iff.1 h
      subst h3
      exact .chr (c::l) _ _ v (Prod.ext (by simp only;omega) (by simp only;omega)) ⟨by omega,by omega⟩ (by omega) (by omega) (by omega) (by omega) (fun e=>hc (by injection e)) (as7 f _ _ h2)
     ·cases h
def am7 (t:ByteArray):Option (List Nat):=
 match t.data.toList with
 | []=>none
 |q::l=>if q=39∨q=34 then aJ9 q l.length l else none
theorem aJ7 {t:ByteArray} {vs:List Nat} (h:am7 t=some vs): ∃q l,(q=39∨q=34)∧t.data.toList=q::l∧LitV q l vs:=by
 unfold am7 at h
 split at h
 ·cases h
 ·rename_i q l hl
  split at h
  ·rename_i hq
   exact⟨q,l,hq,hl,as7 _ _ _ h⟩
  ·cases h
def bk4:ByteArray:=⟨#[48,49,50,51,52,53,54,55,56,57,97,98,99,100,101,102]⟩
def hexG (n:Nat):UInt8:=bk4.data.toList.getD n 0
def ai6 (u:Nat):List UInt8:= [hexG (u / 4096 % 16),hexG (u / 256 % 16),hexG (u / 16 % 16),hexG (u % 16),44]
def ak1:List Nat→List UInt8
 | []=> []
 |u::us=>ai6 u++ak1 us
theorem aG6 (u:Nat): ∀us,ak1 (us++ [u])=ak1 us++ai6 u
 | []=>by simp [ak1]
 |x::us=>by rw [List.cons_append,ak1,aG6 u us,ak1,List.append_assoc]
theorem aJ8: ∀us,(ak1 us).length=5*us.length
 | []=>rfl
 |u::us=>by rw [ak1,List.length_append,aJ8 us,List.length_cons];show 5+_=_;omega
def bq2 (t:ByteArray):ByteArray:=
 match am7 t with
 |some vs=>⟨(61::ak1 vs).toArray⟩
 |none=>t
def numC (t:ByteArray):ByteArray:=if (az7 t).2=0 then ⟨(az7 t).1.toArray⟩ else t
def canT (k:Int) (t:ByteArray):ByteArray:=if k=4 then bq2 t else if k=3 then numC t else t
def aG8 (n:Nd):Bool:=decide (n.kind≠59)
def keyN (n:Nd):Nd:=if n.kind=4 then .mk 1 ⟨#[107]⟩ [] 0 0 else n
def keyL:List Nd→List Nd
 | []=> []
 |k::ks=>keyN k::ks
def drpN (k:Int) (ks:List Nd):List Nd:=if k=86∨k=58 then ks.filter aG8 else if k=13 then keyL ks else ks
mutual
def canN:Nd→Nd
 | .mk k t ks f u=> .mk k (canT k t) (drpN k (bH4 ks)) f u
def bH4:List Nd→List Nd
 | []=> []
 |k::ks=>canN k::bH4 ks
end
def okT (k:Int) (t:ByteArray):Bool:=(!decide (k=4)||(am7 t).isSome) && (!decide (k=9∨k=51∨k=78)|| !t.data.toList.contains 13) && decide (t.size≤1048576)
end
section
open Go.RowKit
def Md (w:World) (F:Nat→Prop) (g o:Nat) (w':World) (m:Nd):Prop:=
 ∃F':Nat→Prop,Kp w w' F g o∧SpC w' m g o F'∧∀x,F' x→(F x∨w.heap.size≤x)∧x<w'.heap.size
section
variable {w w1 w2 w':World} {F:Nat→Prop} {g o:Nat} {n m m':Nd}
theorem Md.refl (h:SpC w n g o F) (hF: ∀x,F x→x<w.heap.size):Md w F g o w n:=⟨F,Kp.refl _ _ _ _,h,fun x hx=>⟨.inl hx,hF x hx⟩⟩
theorem Md.bel (h:Md w F g o w1 m) (hg:g<w.heap.size) (hb:Below w1.heap.size w1 w2):Md w F g o w2 m:=by
 obtain⟨F',h1,h2,h3⟩:=h
 have hg1:g<w1.heap.size:=Nat.lt_of_lt_of_le hg h1.size
 have hgb:=hb.block g hg1
 exact⟨F',h1.trans (Kp.of_bel (F:=fun _=>False) hb hg1) (fun x hx=>hx.elim),aB4 _ _ _ _ _ (fun i _=>⟨World.cell?_of_block hgb,World.frozen?_of_block (a:=⟨g,o+i,none⟩) hgb⟩) (fun x hx=>hb.block x (h3 x hx).2) (fun x hx=>hx) h2,fun x hx=>⟨(h3 x hx).1,Nat.lt_of_lt_of_le (h3 x hx).2 hb.size⟩⟩
theorem Md.text (h:Md w F g o w1 m) (hg: ¬F g) (hlt:g<w.heap.size) (t:ByteArray):Md w F g o (w1.setCell ⟨g,o+1,none⟩ (.string t)) (.mk m.kind t m.kids m.from' m.till):=by
 obtain⟨F',h1,h2,h3⟩:=h
 refine⟨F',h1.trans (Kp.setCell (i:=1) (by decide)) (fun x hx=> .inl hx),h2.text (fun hx=> ?_) t,fun x hx=>⟨(h3 x hx).1,by rw [World.size_setCell];exact(h3 x hx).2⟩⟩
 rcases (h3 g hx).1 with h|h
 ·exact hg h
 ·omega
theorem Md.next {F':Nat→Prop} (hk:Kp w w1 F g o) (hF: ∀x,F' x→F x∨w.heap.size≤x) (h:Md w1 F' g o w2 m):Md w F g o w2 m:=by
 obtain⟨F2,h1,h2,h3⟩:=h
 have hs:=hk.size
 refine⟨F2,hk.trans h1 hF,h2,fun x hx=>⟨?_,(h3 x hx).2⟩⟩
 rcases (h3 x hx).1 with h|h
 ·exact hF x h
 ·exact .inr (by omega)
theorem Md.below {B:Nat} (h:Md w F g o w' m) (hg:B≤g) (hF: ∀x,F x→B≤x) (hB:B≤w.heap.size):Below B w w':=by
 obtain⟨_,h1,_⟩:=h
 exact h1.below hg hF hB
theorem Md.at' {B:Nat} (h:Md w F g o w' m) (hg: ¬F g) (hlt:g<w.heap.size) (hF: ∀x,F x→B≤x) (hB:B≤w.heap.size): ∃F',SpC w' m g o F'∧¬F' g∧(∀x,F' x→B≤x∧x<w'.heap.size)∧g<w'.heap.size∧∀ {w2 m2},Md w' F' g o w2 m2→Md w F g o w2 m2:=by
 obtain⟨F',h1,h2,h3⟩:=h
 refine⟨F',h2,fun hx=> ?_,fun x hx=>⟨?_,(h3 x hx).2⟩,Nat.lt_of_lt_of_le hlt h1.size,fun h=>Md.next h1 (fun x hx=>(h3 x hx).1) h⟩
 ·rcases (h3 g hx).1 with h|h
  ·exact hg h
  ·omega
 ·rcases (h3 x hx).1 with h|h
  ·exact hF x h
  ·omega
def midN (n:Nd) (j:Nat):Nd:= .mk n.kind n.text ((n.kids.take j).map canN++n.kids.drop j) n.from' n.till
theorem ba4 (n:Nd) (j:Nat) (hj:j≤n.kids.length):(midN n j).kids.length=n.kids.length:=by
 show((n.kids.take j).map canN++n.kids.drop j).length=_
 rw [List.length_append,List.length_map,List.length_take,List.length_drop]
 omega
theorem bw1 (n:Nd) (j:Nat) (hj:j<n.kids.length) (h:j<(midN n j).kids.length):(midN n j).kids[j]=n.kids[j]:=by
 refine Option.some.inj ?_
 rw [←List.getElem?_eq_getElem h]
 show((n.kids.take j).map canN++n.kids.drop j)[j]? =_
 rw [List.getElem?_append_right (by rw [List.length_map,List.length_take];omega),List.length_map,List.length_take,Nat.min_eq_left (Nat.le_of_lt hj),Nat.sub_self,List.getElem?_drop,Nat.add_zero,List.getElem?_eq_getElem hj]
theorem bw2 (n:Nd) (j:Nat) (hj:j<n.kids.length):(Nd.mk (midN n j).kind (midN n j).text ((midN n j).kids.set j (canN n.kids[j])) (midN n j).from' (midN n j).till)=midN n (j+1):=by
 unfold midN
 show Nd.mk _ _ (((n.kids.take j).map canN++n.kids.drop j).set j (canN n.kids[j])) _ _=_
 rw [List.set_append_right _ _ (by simp;omega),List.length_map,List.length_take,Nat.min_eq_left (Nat.le_of_lt hj),Nat.sub_self,List.drop_eq_getElem_cons hj,List.set_cons_zero,List.take_succ_eq_append_getElem hj,List.map_append,List.append_assoc]
 rfl
theorem Md.kid {B j:Nat} (h:Md w F g o w1 (midN n j)) (hj:j<n.kids.length) (hg: ¬F g) (hlt:g<w.heap.size) (hF: ∀x,F x→B≤x) (hB:B≤w.heap.size):
  ∃(g2:Nat) (F2:Nat→Prop) (cap:Nat),w1.cell? ⟨g,o+2,none⟩=some (.slice (some ⟨g2,0,none⟩) n.kids.length cap)∧¬F2 g2∧(∀x,F2 x→B≤x∧x<w1.heap.size)∧B≤g2∧g2<w1.heap.size∧SpC w1 n.kids[j] g2 (j*5) F2∧
   ∀w2,Md w1 F2 g2 (j*5) w2 (canN n.kids[j])→Md w F g o w2 (midN n (j+1)):=by
 obtain⟨F',h2,h3,h4,h5,h6⟩:=h.at' hg hlt hF hB
 have hj':j<(midN n j).kids.length:=by rw [ba4 n j (Nat.le_of_lt hj)];exact hj
 obtain⟨g2,F2,cap,k1,k2,k3,k4,k5,k6⟩:=h2.kid h3 (fun x hx=>(h4 x hx).2) j hj'
 rw [ba4 n j (Nat.le_of_lt hj)] at k1
 rw [bw1 n j hj hj'] at k5
 refine⟨g2,F2,cap,k1,k3,fun x hx=>h4 x (k4 x hx),(h4 g2 k2).1,(h4 g2 k2).2,k5,fun w2 ⟨F3,a1,a2,a3⟩=>h6 ?_⟩
 obtain⟨b1,b2⟩:=k6 w2 _ F3 a1 a2 a3
 rw [bw2 n j hj] at b2
 exact⟨_,b1,b2,fun x hx=>⟨hx.imp id (fun h=>h.1),by rcases hx with hx|hx;exact Nat.lt_of_lt_of_le (h4 x hx).2 a1.size;exact hx.2⟩⟩
end
end
end Go.Proofs.YtnobjeelihkjmaaGreatDoor
