/- Steps (Kb LiK). Conditions: as stated. -/
import Derived.Test.YtcgbkjhoifhnnaaGreatDoorPn05
import Derived.Test.YtcgbkjhoifhnnaaGreatDoorPn15
import Derived.Test.YtcgbkjhoifhnnaaGreatDoorPn41
namespace Go.Proofs.YtcgbkjhoifhnnaaGreatDoor
section
open Go.RowKit
def RowV:al5:=fun w L B x b c=>x.kids.length≤c∧RowP w L B x.kids b 0
theorem RowV.keeps:aM1 RowV:=⟨fun hL hB hk ⟨h1,h2⟩=>⟨h1,ae6 hL hB hk h2⟩⟩
theorem KRow.rowV {w:World} {base:Nat} {v:Value} {xs:List Nd} (h:KRow RowV w base v xs): ∃b cap,v= .slice b xs.length cap∧xs.length≤cap∧RowP w base w.heap.size xs b 0:=by
 obtain⟨b,cap,rfl,hn,hk⟩:=h.at' RowV.keeps
 refine⟨b,cap,rfl,hn,an9 fun j hj=> ?_⟩
 obtain⟨g,rfl,h1,h2,_,_,b',cap',hc,h3,h4⟩:=hk j hj
 refine⟨g,0,rfl,?_⟩
 rw [Nat.zero_add,Nat.zero_add,ak8]
 exact⟨b',cap',h1,h2,hc 0 (by decide),hc 1 (by decide),hc 2 (by decide),hc 3 (by decide),hc 4 (by decide),h3,h4⟩
theorem KRow.push' {R:al5} (hR:aM1 R) {w1 w2:World} {base m:Nat} {v:Value} {xs:List Nd} {x:Nd} {b:Option Addr} {cap g cap2 L B:Nat} {o:Obj} (h:KRow R w1 base v xs) (hm:xs.length=m) (hL:base≤L) (hv: ∀g,v.ownBlock=some g→g<L∨B≤g) (hB:B≤w1.heap.size) (hr:R w1 L B x b cap)
  (ho:w2.ownsRow base 26 5 (.slice (some ⟨g,0,none⟩) (m+1) cap2) (m+1) (h.cells++(aa8 x.kind x.text b x.kids.length cap x.from' x.till).toList)) (hg:(w1.alloc o).grownBy w2 v.ownBlock) (hat:v.ownBlock=some g∨g=w1.heap.size+1):
  KRow R w2 base (.slice (some ⟨g,0,none⟩) (m+1) cap2) (xs++ [x]):=by
 subst hm
 unfold KRow.cells at ho
 obtain⟨h1,h2,h3⟩:=Classical.choose_spec h
 generalize Classical.choose h=bs at*
 have hsz:(w1.alloc o).heap.size=w1.heap.size+1:=World.size_alloc _ _
 have hgs:=hg.size
 have hold: ∀k,k<w1.heap.size→v.ownBlock≠some k→w2.heap[k]? =w1.heap[k]? :=fun k hk hne=>(hg.block k (by omega) (fun e=>hne e.symm)).trans (Below.heap_alloc _ _ _ hk)
 refine⟨bs++ [(b,cap)],by simp [h1],?_,fun j hj hbj=> ?_⟩
 ·rw [ai9 xs bs x (b,cap) h1,List.length_append]
  exact ho
 ·by_cases hlt:j<xs.length
  ·have hbl:j<bs.length:=by omega
   rw [List.getElem_append_left hlt,List.getElem_append_left hbl]
   obtain⟨L',B',c1,c2,c3,c4⟩:=h3 j hlt hbl
   refine⟨L',B',c1,by omega,fun g' e=> ?_,hR.k (Nat.le_refl _) (Nat.le_refl _) (fun k k1 k2=> ?_) c4⟩
   ·have e':g=g':=by simpa [Value.ownBlock] using e
    subst e'
    rcases hat with hat|hat
    ·exact c3 g hat
    ·right;omega
   ·refine hold k (by omega) (fun e=> ?_)
    rcases c3 k e with h|h<;>omega
  ·have hje:j=xs.length:=by simp at hj;omega
   subst hje
   rw [List.getElem_append_right (Nat.le_refl _),List.getElem_append_right (by omega)]
   simp only [Nat.sub_self,List.getElem_cons_zero,h1]
   refine⟨L,B,hL,by omega,fun g' e=> ?_,hR.k (Nat.le_refl _) (Nat.le_refl _) (fun k k1 k2=> ?_) hr⟩
   ·have e':g=g':=by simpa [Value.ownBlock] using e
    subst e'
    rcases hat with hat|hat
    ·exact hv g hat
    ·right;omega
   ·refine hold k (by omega) (fun e=> ?_)
    rcases hv k e with h|h<;>omega
theorem KRow.text {w:World} {base:Nat} {v:Value} {xs:List Nd} {k f u:Int} {t:ByteArray} {ks:List Nd} (h:KRow RowV w base v (xs++ [.mk k t ks f u])):
  ∃g cap,v= .slice (some ⟨g,0,none⟩) (xs.length+1) cap∧base≤g∧g<w.heap.size∧w.cell? ⟨g,xs.length*5,none⟩=some (.int .i64 k)∧w.cell? ⟨g,xs.length*5+1,none⟩=some (.string t)∧w.frozen? ⟨g,xs.length*5+1,none⟩=false∧
   ∀t',KRow RowV (w.setCell ⟨g,xs.length*5+1,none⟩ (.string t')) base v (xs++ [.mk k t' ks f u]):=by
 obtain⟨bs,h1,h2,h3⟩:=h
 have h20:=h2
 rw [List.length_append,List.length_singleton] at h2 h1
 rcases h2.2 with ⟨_,h0⟩|⟨g,cap,cur,rfl,hg,hc,r⟩
 ·omega
 ·have hbs:bs=bs.take xs.length++ [bs[xs.length]'(by omega)]:=by
   rw [List.take_append_getElem (by omega),List.take_of_length_le (by omega)]
  have hbl:(bs.take xs.length).length=xs.length:=by rw [List.length_take];omega
  generalize bs.take xs.length=b0 at*
  generalize bs[xs.length]'(by omega)=b at*
  subst hbs
  have hlt:=(Array.getElem?_eq_some_iff.1 hc).1
  have hcell: ∀i,i<5→w.cell? ⟨g,xs.length*5+i,none⟩=(aa8 k t b.1 ks.length b.2 f u)[i]? :=fun i hi=>by
   rw [h2.cellAt (xs.length*5+i) (by omega)]
   have:=ar4 (xs++ [.mk k t ks f u]) (b0++ [b]) (by simp [hbl]) xs.length i (by simp) hi
   rw [this]
   have e1:(xs++ [Nd.mk k t ks f u])[xs.length]'(by simp)= .mk k t ks f u:=by simp
   have e2:(b0++ [b])[xs.length]'(by simp [hbl])=b:=by rw [List.getElem_append_right (by omega)];simp [hbl]
   rw [e1,e2]
   rfl
  refine⟨g,cap,rfl,hg,hlt,hcell 0 (by decide),hcell 1 (by decide),frozen_of_row w g _ _ _ hc,fun t'=>⟨b0++ [b],by simp [hbl],?_,fun j hj hbj=> ?_⟩⟩
  ·have hs:=ak3 h2 (xs.length*5+1) (.string t')
   rw [ai9 _ _ _ _ hbl] at hs⊢
   rw [List.length_append,List.length_singleton]
   have hl:=az9 xs b0 hbl
   rw [List.set_append_right _ _ (by omega),show xs.length*5+1 - (ae7 xs b0).length=1 by omega] at hs
   exact hs
  ·obtain⟨L,B,c1,c2,c3,c4⟩:=h3 j (by simpa using hj) hbj
   have hgn:=c3 g rfl
   refine⟨L,B,c1,by rw [World.size_setCell];exact c2,c3,?_⟩
   have hk:Nd.kids ((xs++ [Nd.mk k t' ks f u])[j]'hj)=Nd.kids ((xs++ [Nd.mk k t ks f u])[j]'(by simpa using hj)):=by
    by_cases hlt:j<xs.length
    ·rw [List.getElem_append_left hlt,List.getElem_append_left hlt]
    ·have hj':j=xs.length:=by simp at hj;omega
     subst hj'
     simp [Nd.kids]
   refine RowV.keeps.k (Nat.le_refl _) (Nat.le_refl _) (fun i i1 i2=>Below.heap_setCell _ _ _ _ (by show i≠g;omega)) ?_
   unfold RowV at c4⊢
   rw [hk]
   exact c4
theorem aI4 {W:World} {g:Nat} {T:TypeId} (ns:List Nd) (hk: ∀n ∈ ns,n.kids= []) (h:W.heap[g]? =some (.cells ((ns.map fun n=>((n,none,0):Kd)).flatMap aa6).toArray T (0,0))):RowP W g (g+1) ns (some ⟨g,0,none⟩) 0:=by
 refine an9 fun j hj=>⟨g,0,rfl,?_⟩
 have hn:ns[j].kids= []:=hk _ (List.getElem_mem hj)
 have hc: ∀i,i<5→W.cell? ⟨g,j*5+i,none⟩=(aa6 (ns[j],none,0))[i]? :=fun i hi=>by
  rw [cell_of_row W g _ _ _ _ h]
  have:=ak0 (ns.map fun n=>((n,none,0):Kd)) j i (by simpa using hj) hi
  rw [List.getElem_map] at this
  rw [←this]
  simp
 rw [Nat.zero_add,Nat.zero_add,ak8]
 refine⟨none,0,Nat.le_refl _,Nat.lt_succ_self _,hc 0 (by decide),hc 1 (by decide),hc 2 (by decide),hc 3 (by decide),hc 4 (by decide),?_,?_⟩
 ·rw [hn];exact Nat.le_refl _
 ·rw [hn];exact ax6 _ _ _ _ _
structure KSt (w0:World) (r:Nat) (kd:Int) (vk:Value) (K:List Nd) (W:World):Prop where
 box:aa4 W r kd ⟨#[]⟩ vk 0 0
 row:KRow RowV W (r+1) vk K
 bel:Below w0.heap.size w0 W
 lo:w0.heap.size≤r
section
variable {w0 W W' w1 w3:World} {r:Nat} {kd:Int} {vk:Value} {K:List Nd}
theorem KSt.next (h:KSt w0 r kd vk K W) (hb:Below W.heap.size W W'):KSt w0 r kd vk K W':=⟨h.box.bel hb,h.row.bel RowV.keeps hb,aa7 h.bel hb,h.lo⟩
theorem KSt.new (hb:Below w0.heap.size w0 w1) (kd:Int):KSt w0 w1.heap.size kd (.slice none 0 0) [] (w1.alloc (.cells #[.int .i64 kd,.string ⟨#[]⟩,.slice none 0 0,.int .i64 0,.int .i64 0] 26)):=⟨heap_alloc_new _ _,KRow.nil _ _ _,hb.alloc hb.size _,hb.size⟩
theorem KSt.far {o:Obj} {m:Nat} {ys:List Value} (h:KSt w0 r kd vk K w1) (ho:w1.ownsRow (r+1) 26 5 vk m ys) (hg:(w1.alloc o).grownBy w3 vk.ownBlock):w3.heap[r]? =w1.heap[r]? :=push_far hg ho h.box.lt
theorem KSt.push {x:Nd} {b:Option Addr} {cap g cap2 L B m:Nat} {o:Obj} (h:KSt w0 r kd vk K w1) (hm:K.length=m) (hL:r+1≤L) (hv: ∀g,vk.ownBlock=some g→g<L∨B≤g) (hB:B≤w1.heap.size) (hr:RowV w1 L B x b cap)
  (ho:w3.ownsRow (r+1) 26 5 (.slice (some ⟨g,0,none⟩) (m+1) cap2) (m+1) (h.row.cells++(aa8 x.kind x.text b x.kids.length cap x.from' x.till).toList)) (hg:(w1.alloc o).grownBy w3 vk.ownBlock) (hat:vk.ownBlock=some g∨g=w1.heap.size+1):
  KSt w0 r kd (.slice (some ⟨g,0,none⟩) (m+1) cap2) (K++ [x]) (w3.setCell ⟨r,2,none⟩ (.slice (some ⟨g,0,none⟩) (m+1) cap2)):=by
 have hrow:=h.row.push' RowV.keeps hm hL hv hB hr ho hg hat
 have hown:=h.row.own hm
 have hlt:=h.box.lt
 have hlo:=h.lo
 have hfar:=h.far hown hg
 refine⟨?_,?_,?_,h.lo⟩
 ·exact heap_setCell_same w3 r 2 _ 26 _ (hfar.trans h.box)
 ·exact hrow.high RowV.keeps (by rw [World.size_setCell];exact Nat.le_refl _) fun k h1 _=>Below.heap_setCell _ _ _ _ (by show k≠r;omega)
 ·refine Below.setCell (p:=⟨r,2,none⟩) ?_ hlo _
  refine(h.bel.alloc h.bel.size o).grown hg (by rw [World.size_alloc];have:=h.bel.size;omega) (fun i e=> ?_)
  have:=(hown.lt i e).1
  omega
theorem KSt.text {k f u:Int} {t:ByteArray} {ks:List Nd} (h:KSt w0 r kd vk (K++ [.mk k t ks f u]) W):
  ∃g cap,vk= .slice (some ⟨g,0,none⟩) (K.length+1) cap∧r<g∧g<W.heap.size∧W.cell? ⟨g,K.length*5,none⟩=some (.int .i64 k)∧W.cell? ⟨g,K.length*5+1,none⟩=some (.string t)∧W.frozen? ⟨g,K.length*5+1,none⟩=false∧
   ∀t',KSt w0 r kd vk (K++ [.mk k t' ks f u]) (W.setCell ⟨g,K.length*5+1,none⟩ (.string t')):=by
 obtain⟨g,cap,hv,h1,h2,h3,h4,h5,h6⟩:=h.row.text
 have hlo:=h.lo
 refine⟨g,cap,hv,h1,h2,h3,h4,h5,fun t'=>⟨?_,h6 t',Below.setCell (p:=⟨g,_,none⟩) h.bel (by show w0.heap.size≤g;omega) _,h.lo⟩⟩
 exact(Below.heap_setCell _ _ _ _ (by show r≠g;omega)).trans h.box
theorem KSt.cells (h:KSt w0 r kd vk K W):W.cell? ⟨r,0,none⟩=some (.int .i64 kd)∧W.cell? ⟨r,1,none⟩=some (.string ⟨#[]⟩)∧W.cell? ⟨r,2,none⟩=some vk∧W.cell? ⟨r,3,none⟩=some (.int .i64 0)∧W.cell? ⟨r,4,none⟩=some (.int .i64 0):=by
 obtain⟨x0,x1,x2,x3,x4,_⟩:=aa4.facts h.box
 exact⟨x0,x1,x2,x3,x4⟩
theorem KSt.v (h:KSt w0 r kd vk K W):NdV W (r+1) W.heap.size (.mk kd ⟨#[]⟩ K 0 0) (.agg #[.int .i64 kd,.string ⟨#[]⟩,vk,.int .i64 0,.int .i64 0]):=by
 obtain⟨b,cap,rfl,h1,h2⟩:=h.row.rowV
 exact⟨b,cap,rfl,h1,h2⟩
end
end
section
open Go.RowKit
def KZ (w:World) (Z:Nat→Prop) (v:Value) (xs:List Nd):Prop:=
 ∃bs:List (Option Addr × Nat),bs.length=xs.length∧w.ownsRow 0 26 5 v xs.length (ae7 xs bs)∧(∀g,v.ownBlock=some g→Z g)∧
  ∀j,(hj:j<xs.length)→(hb:j<bs.length)→∃L B,(∀k,L≤k→k<B→Z k)∧B≤w.heap.size∧(∀g,v.ownBlock=some g→g<L∨B≤g)∧RowV w L B xs[j] bs[j].1 bs[j].2
section
variable {w w' w1 w2:World} {Z Z':Nat→Prop} {v:Value} {xs:List Nd}
theorem KZ.nil:KZ w Z (.slice none 0 0) []:=⟨[],rfl,World.ownsRow_nil _ _ _ _,(fun g h=>by cases h),fun j h=>absurd h (Nat.not_lt_zero _)⟩
theorem KZ.row (h:KZ w Z v xs):KRow RowV w 0 v xs:=by
 obtain⟨bs,h1,h2,h3,h4⟩:=h
 exact⟨bs,h1,h2,fun j hj hb=>by
  obtain⟨L,B,_,c2,c3,c4⟩:=h4 j hj hb
  exact⟨L,B,Nat.zero_le _,c2,c3,c4⟩⟩
theorem KZ.keep (h:KZ w Z v xs) (hZ: ∀k,Z k→Z' k) (hs:w.heap.size≤w'.heap.size) (hk: ∀k,Z k→k<w.heap.size→w'.heap[k]? =w.heap[k]?):KZ w' Z' v xs:=by
 obtain⟨bs,h1,h2,h3,h4⟩:=h
 refine⟨bs,h1,ac6 h2 fun g hg hl=>hk g (h3 g hg) hl,fun g hg=>hZ g (h3 g hg),fun j hj hb=> ?_⟩
 obtain⟨L,B,c1,c2,c3,c4⟩:=h4 j hj hb
 exact⟨L,B,fun k k1 k2=>hZ k (c1 k k1 k2),Nat.le_trans c2 hs,c3,RowV.keeps.k (Nat.le_refl _) (Nat.le_refl _) (fun k k1 k2=>hk k (c1 k k1 k2) (by omega)) c4⟩
theorem KZ.push {x:Nd} {b:Option Addr} {cap g cap2 L B:Nat} {o:Obj} {bs:List (Option Addr × Nat)} (h1:bs.length=xs.length) (h3: ∀j,(hj:j<xs.length)→(hb:j<bs.length)→∃L B,(∀k,L≤k→k<B→Z k)∧B≤w1.heap.size∧(∀g,v.ownBlock=some g→g<L∨B≤g)∧RowV w1 L B xs[j] bs[j].1 bs[j].2)
  (hZ: ∀k,Z k→Z' k) (hg':Z' g) (hLB: ∀k,L≤k→k<B→Z' k) (hv: ∀g,v.ownBlock=some g→g<L∨B≤g) (hB:B≤w1.heap.size) (hr:RowV w1 L B x b cap)
  (ho:w2.ownsRow 0 26 5 (.slice (some ⟨g,0,none⟩) (xs.length+1) cap2) (xs.length+1) (ae7 xs bs++(aa8 x.kind x.text b x.kids.length cap x.from' x.till).toList)) (hg:(w1.alloc o).grownBy w2 v.ownBlock) (hat:v.ownBlock=some g∨g=w1.heap.size+1):
  KZ w2 Z' (.slice (some ⟨g,0,none⟩) (xs.length+1) cap2) (xs++ [x]):=by
 have hsz:(w1.alloc o).heap.size=w1.heap.size+1:=World.size_alloc _ _
 have hgs:=hg.size
 have hold: ∀k,k<w1.heap.size→v.ownBlock≠some k→w2.heap[k]? =w1.heap[k]? :=fun k hk hne=>(hg.block k (by omega) (fun e=>hne e.symm)).trans (Below.heap_alloc _ _ _ hk)
 have hown: ∀g',(Value.slice (some ⟨g,0,none⟩) (xs.length+1) cap2).ownBlock=some g'→g=g':=fun g' e=>by simpa [Value.ownBlock] using e
 refine⟨bs++ [(b,cap)],by simp [h1],?_,fun g' e=>hown g' e▸hg',fun j hj hbj=> ?_⟩
 ·rw [ai9 xs bs x (b,cap) h1,List.length_append]
  exact ho
 ·by_cases hlt:j<xs.length
  ·have hbl:j<bs.length:=by omega
   rw [List.getElem_append_left hlt,List.getElem_append_left hbl]
   obtain⟨L',B',c1,c2,c3,c4⟩:=h3 j hlt hbl
   refine⟨L',B',fun k k1 k2=>hZ k (c1 k k1 k2),by omega,fun g' e=> ?_,RowV.keeps.k (Nat.le_refl _) (Nat.le_refl _) (fun k k1 k2=> ?_) c4⟩
   ·have e':=hown g' e
    subst e'
    rcases hat with hat|hat
    ·exact c3 g hat
    ·right;omega
   ·refine hold k (by omega) (fun e=> ?_)
    rcases c3 k e with h|h<;>omega
  ·have hje:j=xs.length:=by simp at hj;omega
   subst hje
   rw [List.getElem_append_right (Nat.le_refl _),List.getElem_append_right (by omega)]
   simp only [Nat.sub_self,List.getElem_cons_zero,h1]
   refine⟨L,B,hLB,by omega,fun g' e=> ?_,RowV.keeps.k (Nat.le_refl _) (Nat.le_refl _) (fun k k1 k2=> ?_) hr⟩
   ·have e':=hown g' e
    subst e'
    rcases hat with hat|hat
    ·exact hv g hat
    ·right;omega
   ·refine hold k (by omega) (fun e=> ?_)
    rcases hv k e with h|h<;>omega
end
def tri {α:Type} (a b c:α):Nat→α
 |0=>a
 |1=>b
 |_=>c
def liK:Nat→Int:=tri 11 12 36
structure LiB (W:World) (g:Nat) (kd:Int) (v:Value) (K:List Nd) (Z:Nat→Prop):Prop where
 box:aa4 W g kd ⟨#[]⟩ v 0 0
 row:KZ W Z v K
structure LiSt (w0:World) (r:Nat) (v:Nat→Value) (K:Nat→List Nd) (top:Nat) (W:World):Prop where
 ex: ∃Z:Nat→Nat→Prop,(∀i,i<3→LiB W (r+i) (liK i) (v i) (K i) (Z i))∧(∀i k,i<3→Z i k→r+3≤k∧k<top)∧(∀i j k,i<3→j<3→i≠j→Z i k→¬Z j k)
 bel:Below w0.heap.size w0 W
 lo:w0.heap.size≤r
 r3:r+3≤top
 le:top≤W.heap.size
section
variable {w0 W W' w1 w3:World} {r top:Nat} {v v':Nat→Value} {K K':Nat→List Nd}
theorem LiSt.next (h:LiSt w0 r v K top W) (hb:Below W.heap.size W W'):LiSt w0 r v K top W':=by
 obtain⟨Z,h1,h2,h3⟩:=h.ex
 exact⟨⟨Z,fun i hi=>⟨(h1 i hi).box.bel hb,(h1 i hi).row.keep (fun _ h=>h) hb.size fun k _ hk=>hb.block k hk⟩,h2,h3⟩,aa7 h.bel hb,h.lo,h.r3,Nat.le_trans h.le hb.size⟩
theorem LiSt.up (h:LiSt w0 r v K top W) {t:Nat} (h1:top≤t) (h2:t≤W.heap.size):LiSt w0 r v K t W:=by
 obtain⟨Z,a1,a2,a3⟩:=h.ex
 exact⟨⟨Z,a1,fun i k hi hk=>⟨(a2 i k hi hk).1,Nat.lt_of_lt_of_le (a2 i k hi hk).2 h1⟩,a3⟩,h.bel,h.lo,Nat.le_trans h.r3 h1,h2⟩
theorem LiSt.fs (h:LiSt w0 r v K top W) (i:Nat) (hi:i<3):W.cell? ⟨r+i,2,none⟩=some (v i)∧W.frozen? ⟨r+i,2,none⟩=false∧r+i<W.heap.size:=by
 obtain⟨Z,h1,_⟩:=h.ex
 have hb:=(h1 i hi).box
 exact⟨(aa4.facts hb).2.2.1,(aa4.facts hb).2.2.2.2.2.2.2.1,hb.lt⟩
theorem LiSt.start (hb:Below w0.heap.size w0 W):LiSt w0 W.heap.size (tri (.slice none 0 0) (.slice none 0 0) (.slice none 0 0)) (tri [] [] []) (W.heap.size+3) (((W.alloc (.cells #[.int .i64 11,.string ⟨#[]⟩,.slice none 0 0,.int .i64 0,.int .i64 0] 26)).alloc (.cells #[.int .i64 12,.string ⟨#[]⟩,.slice none 0 0,.int .i64 0,.int .i64 0] 26)).alloc (.cells #[.int .i64 36,.string ⟨#[]⟩,.slice none 0 0,.int .i64 0,.int .i64 0] 26)):=by
 have hn: ∀i,i<3→tri (.slice none 0 0) (.slice none 0 0) (.slice none 0 0) i=(Value.slice none 0 0)∧tri ([]:List Nd) [] [] i= []:=fun i _=>match i with
  |0=>⟨rfl,rfl⟩
  |1=>⟨rfl,rfl⟩
  |_+2=>⟨rfl,rfl⟩
 refine⟨⟨fun _ _=>False,fun i hi=> ?_,fun i k _ h=>h.elim,fun i j k _ _ _ h=>h.elim⟩,((hb.alloc hb.size _).alloc (by rw [World.size_alloc];have:=hb.size;omega) _).alloc (by rw [World.size_alloc,World.size_alloc];have:=hb.size;omega) _,hb.size,Nat.le_refl _,by rw [World.size_alloc,World.size_alloc,World.size_alloc];exact Nat.le_refl _⟩
 rw [(hn i hi).1,(hn i hi).2]
 refine⟨?_,KZ.nil⟩
 match i,hi with
 |0,_=>exact(Below.heap_alloc _ _ _ (by rw [World.size_alloc,World.size_alloc];omega)).trans ((Below.heap_alloc _ _ _ (by rw [World.size_alloc];omega)).trans (heap_alloc_new W _))
 |1,_=>exact(Below.heap_alloc _ _ _ (by rw [World.size_alloc,World.size_alloc];omega)).trans (by have h:=heap_alloc_new (W.alloc (.cells #[.int .i64 11,.string ⟨#[]⟩,.slice none 0 0,.int .i64 0,.int .i64 0] 26)) (.cells #[.int .i64 12,.string ⟨#[]⟩,.slice none 0 0,.int .i64 0,.int .i64 0] 26);rw [World.size_alloc] at h;exact h)
 |2,_=>
  have h:=heap_alloc_new ((W.alloc (.cells #[.int .i64 11,.string ⟨#[]⟩,.slice none 0 0,.int .i64 0,.int .i64 0] 26)).alloc (.cells #[.int .i64 12,.string ⟨#[]⟩,.slice none 0 0,.int .i64 0,.int .i64 0] 26)) (.cells #[.int .i64 36,.string ⟨#[]⟩,.slice none 0 0,.int .i64 0,.int .i64 0] 26)
  rw [World.size_alloc,World.size_alloc] at h
  exact h
theorem LiSt.own (h:LiSt w0 r v K top w1) (i:Nat) (hi:i<3) {m:Nat} (hm:(K i).length=m): ∃cs:List Value,w1.ownsRow 0 26 5 (v i) m cs∧
  ∀ {x:Nd} {b:Option Addr} {cap g cap2 L B:Nat} {o:Obj} {w3:World},top≤L→B≤w1.heap.size→RowV w1 L B x b cap→w3.ownsRow 0 26 5 (.slice (some ⟨g,0,none⟩) (m+1) cap2) (m+1) (cs++(aa8 x.kind x.text b x.kids.length cap x.from' x.till).toList)→(w1.alloc o).grownBy w3 (v i).ownBlock→((v i).ownBlock=some g∨g=w1.heap.size+1)→g<w3.heap.size→
   ∀(v':Nat→Value) (K':Nat→List Nd),(∀j,j<3→v' j=if j=i then .slice (some ⟨g,0,none⟩) (m+1) cap2 else v j)→(∀j,j<3→K' j=if j=i then K i++ [x] else K j)→LiSt w0 r v' K' w3.heap.size (w3.setCell ⟨r+i,2,none⟩ (.slice (some ⟨g,0,none⟩) (m+1) cap2)):=by
 subst hm
 obtain⟨Z,h1,h2,h3⟩:=h.ex
 obtain⟨bs,k1,k2,k3,k4⟩:=(h1 i hi).row
 refine⟨ae7 (K i) bs,k2,?_⟩
 intro x b cap g cap2 L B o w3 hL hB hr ho hg hat hgw v' K' hv' hK'
 have hsz:(w1.alloc o).heap.size=w1.heap.size+1:=World.size_alloc _ _
 have hgs:=hg.size
 have hle:=h.le
 have hr3:=h.r3
 have hold: ∀k,k<w1.heap.size→(v i).ownBlock≠some k→w3.heap[k]? =w1.heap[k]? :=fun k hk hne=>(hg.block k (by omega) (fun e=>hne e.symm)).trans (Below.heap_alloc _ _ _ hk)
 have hown: ∀g',(v i).ownBlock=some g'→r+3≤g'∧g'<top:=fun g' e=>h2 i g' hi (k3 g' e)
 let Z':Nat→Nat→Prop:=fun j k=>Z j k∨(j=i∧top≤k∧k<w3.heap.size)
 have hg3:Z' i g:=by
  rcases hat with hat|hat
  ·exact .inl (k3 g hat)
  ·exact .inr ⟨rfl,by omega,hgw⟩
 have hpush:=KZ.push (Z':=Z' i) (L:=L) (B:=B) (cap:=cap) (b:=b) k1 k4 (fun k hk=> .inl hk) hg3 (fun k a1 a2=> .inr ⟨rfl,by omega,by omega⟩) (fun g' e=> .inl (by have:=hown g' e;omega)) hB hr ho hg hat
 have hset: ∀k,k≠r+i→(w3.setCell ⟨r+i,2,none⟩ (.slice (some ⟨g,0,none⟩) ((K i).length+1) cap2)).heap[k]? =w3.heap[k]? :=fun k hk=>Below.heap_setCell _ _ _ _ hk
 have hss:(w3.setCell ⟨r+i,2,none⟩ (.slice (some ⟨g,0,none⟩) ((K i).length+1) cap2)).heap.size=w3.heap.size:=World.size_setCell _ _ _
 refine⟨⟨Z',fun j hj=> ?_,fun j k hj hk=> ?_,fun a b k ha hb hab hk=> ?_⟩,?_,h.lo,by omega,by rw [hss];exact Nat.le_refl _⟩
 ·rw [hv' j hj,hK' j hj]
  by_cases hji:j=i
  ·subst hji
   rw [if_pos rfl,if_pos rfl]
   refine⟨?_,hpush.keep (fun _ h=>h) (by rw [hss];exact Nat.le_refl _) fun k hk _=>hset k ?_⟩
   ·exact heap_setCell_same w3 (r+j) 2 _ 26 _ ((hold _ (by have:=(h1 j hj).box.lt;omega) (fun e=>by have:=hown _ e;omega)).trans (h1 j hj).box)
   ·rcases hk with hk|⟨_,hk,_⟩
    ·have:=h2 j k hj hk;omega
    ·omega
  ·rw [if_neg hji,if_neg hji]
   have hb:=(h1 j hj).box
   refine⟨?_,(h1 j hj).row.keep (fun k hk=> .inl hk) (by rw [hss];omega) fun k hk hlt=>(hset k ?_).trans (hold k hlt fun e=>h3 j i k hj hi hji hk (k3 k e))⟩
   ·have e1:(w3.setCell ⟨r+i,2,none⟩ (.slice (some ⟨g,0,none⟩) ((K i).length+1) cap2)).heap[r+j]? =w1.heap[r+j]? :=(hset _ (by omega)).trans (hold _ hb.lt (fun e=>by have:=hown _ e;omega))
    exact e1.trans hb
   ·have:=h2 j k hj hk;omega
 ·rcases hk with hk|⟨_,k5,k6⟩
  ·have:=h2 j k hj hk
   omega
  ·omega
 ·rcases hk with hk|⟨rfl,k5,k6⟩
  ·rintro(hk2|⟨rfl,k5,k6⟩)
   ·exact h3 a b k ha hb hab hk hk2
   ·have:=h2 a k ha hk;omega
  ·rintro(hk2|⟨e,_,_⟩)
   ·have:=h2 b k hb hk2;omega
   ·exact hab e.symm
 ·have hlo:=h.lo
  refine Below.setCell (p:=⟨r+i,2,none⟩) ?_ (by show w0.heap.size≤r+i;omega) _
  refine(h.bel.alloc h.bel.size o).grown hg (by rw [World.size_alloc];have:=h.bel.size;omega) (fun k e=> ?_)
  have:=(hown k e).1
  omega
theorem LiSt.val (h:LiSt w0 r v K top W) (i:Nat) (hi:i<3): ∃b cap,v i= .slice b (K i).length cap∧(K i).length≤cap∧RowP W 0 W.heap.size (K i) b 0:=by
 obtain⟨Z,h1,_⟩:=h.ex
 exact(h1 i hi).row.row.rowV
theorem LiSt.cells (h:LiSt w0 r v K top W) (i:Nat) (hi:i<3):W.cell? ⟨r+i,0,none⟩=some (.int .i64 (liK i))∧W.cell? ⟨r+i,1,none⟩=some (.string ⟨#[]⟩)∧W.cell? ⟨r+i,2,none⟩=some (v i)∧W.cell? ⟨r+i,3,none⟩=some (.int .i64 0)∧W.cell? ⟨r+i,4,none⟩=some (.int .i64 0):=by
 obtain⟨Z,h1,_⟩:=h.ex
 obtain⟨x0,x1,x2,x3,x4,_⟩:=aa4.facts (h1 i hi).box
 exact⟨x0,x1,x2,x3,x4⟩
theorem LiSt.lt (h:LiSt w0 r v K top W) (i:Nat) (hi:i<3): ∀g,(v i).ownBlock=some g→r+3≤g∧g<top:=by
 obtain⟨Z,h1,h2,_⟩:=h.ex
 obtain⟨bs,_,_,k3,_⟩:=(h1 i hi).row
 exact fun g e=>h2 i g hi (k3 g e)
theorem LiSt.nd (h:LiSt w0 r v K top W) (i:Nat) (hi:i<3):NdV W 0 W.heap.size (.mk (liK i) ⟨#[]⟩ (K i) 0 0) (.agg #[.int .i64 (liK i),.string ⟨#[]⟩,v i,.int .i64 0,.int .i64 0]):=by
 obtain⟨b,cap,hv,h1,h2⟩:=h.val i hi
 rw [hv]
 exact⟨b,cap,rfl,h1,h2⟩
theorem bu5 {w:World} {r L B:Nat} {ks:List Nd} {a:Option Addr} (h:RowP w L B ks a 0) (hr:B≤r):RowA w r B ks a:=
 fun w2 h2=>ae6 (Nat.zero_le _) (Nat.le_refl _) (fun k _ hk=>h2 k hk (by omega)) h
end
section
variable {w0 W:World} {r top:Nat} {va vo:Value} {bc:Option Addr} {mc cc:Nat} {A O C:List Nd}
theorem LiSt.cells3 {vc:Value} (h:LiSt w0 r (tri va vo vc) (tri A O C) top W):(W.cell? ⟨r,0,none⟩=some (.int .i64 11)∧W.cell? ⟨r,1,none⟩=some (.string ⟨#[]⟩)∧W.cell? ⟨r,2,none⟩=some va∧W.cell? ⟨r,3,none⟩=some (.int .i64 0)∧W.cell? ⟨r,4,none⟩=some (.int .i64 0))∧
  (W.cell? ⟨r+1,0,none⟩=some (.int .i64 12)∧W.cell? ⟨r+1,1,none⟩=some (.string ⟨#[]⟩)∧W.cell? ⟨r+1,2,none⟩=some vo∧W.cell? ⟨r+1,3,none⟩=some (.int .i64 0)∧W.cell? ⟨r+1,4,none⟩=some (.int .i64 0))∧
  (W.cell? ⟨r+1+1,0,none⟩=some (.int .i64 36)∧W.cell? ⟨r+1+1,1,none⟩=some (.string ⟨#[]⟩)∧W.cell? ⟨r+1+1,2,none⟩=some vc∧W.cell? ⟨r+1+1,3,none⟩=some (.int .i64 0)∧W.cell? ⟨r+1+1,4,none⟩=some (.int .i64 0)):=⟨h.cells 0 (by decide),h.cells 1 (by decide),h.cells 2 (by decide)⟩
theorem LiSt.call (h:LiSt w0 r (tri va vo (.slice bc mc cc)) (tri A O C) top W) (hm:C.length=mc):NdV (W.alloc (.cells #[.int .i64 1,.string ⟨#[102]⟩,.slice none 0 0,.int .i64 0,.int .i64 0,.int .i64 36,.string ⟨#[]⟩,.slice bc mc cc,.int .i64 0,.int .i64 0] 26)) 0 (W.heap.size+1)
  (.mk 35 ⟨#[]⟩ [.mk 1 ⟨#[102]⟩ [] 0 0,.mk 36 ⟨#[]⟩ C 0 0] 0 0) (.agg #[.int .i64 35,.string ⟨#[]⟩,.slice (some ⟨W.heap.size,0,none⟩) 2 2,.int .i64 0,.int .i64 0]):=by
 subst hm
 obtain⟨b,cap,hv,h1,h2⟩:=h.val 2 (by decide)
 replace hv:Value.slice bc C.length cc= .slice b C.length cap:=hv
 simp only [Value.slice.injEq,true_and] at hv
 obtain⟨rfl,rfl⟩:=hv
 exact⟨_,2,rfl,Nat.le_refl _,(RowA.new (w:=W) (r:=W.heap.size+1) (T:=26) [(.mk 1 ⟨#[102]⟩ [] 0 0,none,0),(.mk 36 ⟨#[]⟩ C 0 0,bc,cc)] (fun x hx=>by
  simp only [List.mem_cons,List.not_mem_nil,or_false] at hx
  rcases hx with rfl|rfl
  ·exact⟨Nat.le_refl _,RowA.nil _ _ _ _⟩
  ·exact⟨h1,bu5 h2 (Nat.le_succ _)⟩) (by omega) (heap_alloc_new _ _) fun k hk _=>Below.heap_alloc _ _ _ hk).row⟩
end
section
variable {w0 W W' w w1:World} {r gx:Nat} {va vo vc:Value} {A O C:List Nd} {V:ByteArray}
structure LiX (w0:World) (r:Nat) (va vo vc:Value) (A O C:List Nd) (gx:Nat) (V:ByteArray) (W:World):Prop where
 st: ∃top,LiSt w0 r (tri va vo vc) (tri A O C) top W
 x:aa4 W gx 1 V (.slice none 0 0) 0 0
 lx:r+3≤gx
 ap: ∀i,i<3→(tri va vo vc i).ownBlock≠some gx
theorem LiX.new {top:Nat} (h:LiSt w0 r (tri va vo vc) (tri A O C) top W) (V:ByteArray):LiX w0 r va vo vc A O C W.heap.size V (W.alloc (.cells #[.int .i64 1,.string V,.slice none 0 0,.int .i64 0,.int .i64 0] 26)):=
 ⟨⟨top,h.next (ad3 _ _)⟩,heap_alloc_new _ _,Nat.le_trans h.r3 h.le,fun i hi e=>by have:=(h.lt i hi _ e).2;have:=h.le;omega⟩
theorem LiX.next (h:LiX w0 r va vo vc A O C gx V W) (hb:Below W.heap.size W W'):LiX w0 r va vo vc A O C gx V W':=by
 obtain⟨top,h1⟩:=h.st
 exact⟨⟨top,h1.next hb⟩,h.x.bel hb,h.lx,h.ap⟩
theorem LiX.fs (h:LiX w0 r va vo vc A O C gx V W):(W.cell? ⟨r,2,none⟩=some va∧W.cell? ⟨r+1,2,none⟩=some vo∧W.cell? ⟨r+1+1,2,none⟩=some vc)∧(W.frozen? ⟨r,2,none⟩=false∧W.frozen? ⟨r+1,2,none⟩=false∧W.frozen? ⟨r+1+1,2,none⟩=false)∧(r<W.heap.size∧r+1<W.heap.size∧r+1+1<W.heap.size)∧
  (W.cell? ⟨gx,0,none⟩=some (.int .i64 1)∧W.cell? ⟨gx,1,none⟩=some (.string V)∧W.cell? ⟨gx,2,none⟩=some (.slice none 0 0)∧W.cell? ⟨gx,3,none⟩=some (.int .i64 0)∧W.cell? ⟨gx,4,none⟩=some (.int .i64 0))∧gx<W.heap.size:=by
 obtain⟨top,h1⟩:=h.st
 obtain⟨a1,a2,a3⟩:=h1.fs 0 (by decide)
 obtain⟨b1,b2,b3⟩:=h1.fs 1 (by decide)
 obtain⟨c1,c2,c3⟩:=h1.fs 2 (by decide)
 obtain⟨x0,x1,x2,x3,x4,_⟩:=aa4.facts h.x
 exact⟨⟨a1,b1,c1⟩,⟨a2,b2,c2⟩,⟨a3,b3,c3⟩,⟨x0,x1,x2,x3,x4⟩,h.x.lt⟩
theorem LiX.own (h:LiX w0 r va vo vc A O C gx V w) (i:Nat) (hi:i<3) {m:Nat} (hm:(tri A O C i).length=m) (hb:Below w.heap.size w w1): ∃cs:List Value,w1.ownsRow 0 26 5 (tri va vo vc i) m cs∧
  ∀ {x:Nd} {b:Option Addr} {cap g cap2 L B:Nat} {o:Obj} {w3:World},w.heap.size≤L→B≤w1.heap.size→RowV w1 L B x b cap→w3.ownsRow 0 26 5 (.slice (some ⟨g,0,none⟩) (m+1) cap2) (m+1) (cs++(aa8 x.kind x.text b x.kids.length cap x.from' x.till).toList)→(w1.alloc o).grownBy w3 (tri va vo vc i).ownBlock→((tri va vo vc i).ownBlock=some g∨g=w1.heap.size+1)→g<w3.heap.size→
   (w3.cell? ⟨r+i,2,none⟩=some (tri va vo vc i)∧w3.frozen? ⟨r+i,2,none⟩=false∧r+i<w3.heap.size)∧
   ∀(va' vo' vc':Value) (A' O' C':List Nd),(∀j,j<3→tri va' vo' vc' j=if j=i then .slice (some ⟨g,0,none⟩) (m+1) cap2 else tri va vo vc j)→(∀j,j<3→tri A' O' C' j=if j=i then tri A O C i++ [x] else tri A O C j)→LiX w0 r va' vo' vc' A' O' C' gx V (w3.setCell ⟨r+i,2,none⟩ (.slice (some ⟨g,0,none⟩) (m+1) cap2)):=by
 obtain⟨top,h1⟩:=h.st
 have h2:=h1.next hb
 obtain⟨cs,k1,k2⟩:=h2.own i hi hm
 refine⟨cs,k1,?_⟩
 intro x b cap g cap2 L B o w3 hL hB hr ho hg hat hgw
 have hown:=h2.lt i hi
 have hx:=h.x.bel hb
 have hxl:=hx.lt
 have hlx:=h.lx
 have hsz:(w1.alloc o).heap.size=w1.heap.size+1:=World.size_alloc _ _
 have hgs:=hg.size
 have hold: ∀k,k<w1.heap.size→(tri va vo vc i).ownBlock≠some k→w3.heap[k]? =w1.heap[k]? :=fun k hk hne=>(hg.block k (by omega) (fun e=>hne e.symm)).trans (Below.heap_alloc _ _ _ hk)
 obtain⟨f1,f2,f3⟩:=h2.fs i hi
 have hbo:=hold (r+i) f3 fun e=>by have:=hown _ e;omega
 refine⟨⟨(World.cell?_of_block (a:=⟨r+i,2,none⟩) hbo).trans f1,(World.frozen?_of_block (a:=⟨r+i,2,none⟩) hbo).trans f2,by omega⟩,fun va' vo' vc' A' O' C' hv hK=>⟨⟨_,k2 (Nat.le_trans h1.le hL) hB hr ho hg hat hgw _ _ hv hK⟩,?_,hlx,fun j hj e=> ?_⟩⟩
 ·exact(Below.heap_setCell _ _ _ _ (by show gx≠r+i;omega)).trans ((hold gx hxl (h.ap i hi)).trans hx)
 ·rw [hv j hj] at e
  split at e
  ·have e':g=gx:=by simpa [Value.ownBlock] using e
   rcases hat with hat|hat
   ·exact h.ap i hi (e'▸hat)
   ·omega
  ·exact h.ap j hj e
end
end
end Go.Proofs.YtcgbkjhoifhnnaaGreatDoor
