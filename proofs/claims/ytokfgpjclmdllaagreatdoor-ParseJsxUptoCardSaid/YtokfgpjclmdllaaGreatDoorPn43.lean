/- Steps (Kb). Conditions: as stated. -/
import Derived.Test.YtokfgpjclmdllaaGreatDoorPn05
import Derived.Test.YtokfgpjclmdllaaGreatDoorPn15
import Derived.Test.YtokfgpjclmdllaaGreatDoorPn39
namespace Go.Proofs.YtokfgpjclmdllaaGreatDoor
section
open Go.RowKit
def RowV:al2:=fun w L B x b c=>x.kids.length≤c∧RowP w L B x.kids b 0
theorem RowV.keeps:aM1 RowV:=⟨fun hL hB hk ⟨h1,h2⟩=>⟨h1,af2 hL hB hk h2⟩⟩
theorem KRow.rowV {w:World} {base:Nat} {v:Value} {xs:List Nd} (h:KRow RowV w base v xs): ∃b cap,v= .slice b xs.length cap∧xs.length≤cap∧RowP w base w.heap.size xs b 0:=by
 obtain⟨b,cap,rfl,hn,hk⟩:=h.at' RowV.keeps
 refine⟨b,cap,rfl,hn,ao5 fun j hj=> ?_⟩
 obtain⟨g,rfl,h1,h2,_,_,b',cap',hc,h3,h4⟩:=hk j hj
 refine⟨g,0,rfl,?_⟩
 rw [Nat.zero_add,Nat.zero_add,al7]
 exact⟨b',cap',h1,h2,hc 0 (by decide),hc 1 (by decide),hc 2 (by decide),hc 3 (by decide),hc 4 (by decide),h3,h4⟩
theorem KRow.push' {R:al2} (hR:aM1 R) {w1 w2:World} {base m:Nat} {v:Value} {xs:List Nd} {x:Nd} {b:Option Addr} {cap g cap2 L B:Nat} {o:Obj} (h:KRow R w1 base v xs) (hm:xs.length=m) (hL:base≤L) (hv: ∀g,v.ownBlock=some g→g<L∨B≤g) (hB:B≤w1.heap.size) (hr:R w1 L B x b cap)
  (ho:w2.ownsRow base 26 5 (.slice (some ⟨g,0,none⟩) (m+1) cap2) (m+1) (h.cells++(ab7 x.kind x.text b x.kids.length cap x.from' x.till).toList)) (hg:(w1.alloc o).grownBy w2 v.ownBlock) (hat:v.ownBlock=some g∨g=w1.heap.size+1):
  KRow R w2 base (.slice (some ⟨g,0,none⟩) (m+1) cap2) (xs++ [x]):=by
 subst hm
 unfold KRow.cells at ho
 obtain⟨h1,h2,h3⟩:=Classical.choose_spec h
 generalize Classical.choose h=bs at*
 have hsz:(w1.alloc o).heap.size=w1.heap.size+1:=World.size_alloc _ _
 have hgs:=hg.size
 have hold: ∀k,k<w1.heap.size→v.ownBlock≠some k→w2.heap[k]? =w1.heap[k]? :=fun k hk hne=>(hg.block k (by omega) (fun e=>hne e.symm)).trans (Below.heap_alloc _ _ _ hk)
 refine⟨bs++ [(b,cap)],by simp [h1],?_,fun j hj hbj=> ?_⟩
 ·rw [am0 xs bs x (b,cap) h1,List.length_append]
  exact ho
 ·by_cases hlt:j<xs.length
  ·have hbl:j<bs.length:=by omega
   rw [List.getElem_append_left hlt,List.getElem_append_left hbl]
   obtain⟨L',B',c1,c2,c3,c4⟩:=h3 j hlt hbl
   refine⟨L',B',c1,by omega,fun g' e=> ?_,hR.k (Nat.le_refl _) (Nat.le_refl _) (fun k k1 k2=> ?_) c4⟩
   ·have e':g=g':=by simpa [Value.ownBlock] using e
    subst e'
    rcases hat with hat|hat
    ·exact c3 g hat
    ·right;omega
   ·refine hold k (by omega) (fun e=> ?_)
    rcases c3 k e with h|h<;>omega
  ·have hje:j=xs.length:=by simp at hj;omega
   subst hje
   rw [List.getElem_append_right (Nat.le_refl _),List.getElem_append_right (by omega)]
   simp only [Nat.sub_self,List.getElem_cons_zero,h1]
   refine⟨L,B,hL,by omega,fun g' e=> ?_,hR.k (Nat.le_refl _) (Nat.le_refl _) (fun k k1 k2=> ?_) hr⟩
   ·have e':g=g':=by simpa [Value.ownBlock] using e
    subst e'
    rcases hat with hat|hat
    ·exact hv g hat
    ·right;omega
   ·refine hold k (by omega) (fun e=> ?_)
    rcases hv k e with h|h<;>omega
theorem KRow.text {w:World} {base:Nat} {v:Value} {xs:List Nd} {k f u:Int} {t:ByteArray} {ks:List Nd} (h:KRow RowV w base v (xs++ [.mk k t ks f u])):
  ∃g cap,v= .slice (some ⟨g,0,none⟩) (xs.length+1) cap∧base≤g∧g<w.heap.size∧w.cell? ⟨g,xs.length*5,none⟩=some (.int .i64 k)∧w.cell? ⟨g,xs.length*5+1,none⟩=some (.string t)∧w.frozen? ⟨g,xs.length*5+1,none⟩=false∧
   ∀t',KRow RowV (w.setCell ⟨g,xs.length*5+1,none⟩ (.string t')) base v (xs++ [.mk k t' ks f u]):=by
 obtain⟨bs,h1,h2,h3⟩:=h
 have h20:=h2
 rw [List.length_append,List.length_singleton] at h2 h1
 rcases h2.2 with ⟨_,h0⟩|⟨g,cap,cur,rfl,hg,hc,r⟩
 ·omega
 ·have hbs:bs=bs.take xs.length++ [bs[xs.length]'(by omega)]:=by
   rw [List.take_append_getElem (by omega),List.take_of_length_le (by omega)]
  have hbl:(bs.take xs.length).length=xs.length:=by rw [List.length_take];omega
  generalize bs.take xs.length=b0 at*
  generalize bs[xs.length]'(by omega)=b at*
  subst hbs
  have hlt:=(Array.getElem?_eq_some_iff.1 hc).1
  have hcell: ∀i,i<5→w.cell? ⟨g,xs.length*5+i,none⟩=(ab7 k t b.1 ks.length b.2 f u)[i]? :=fun i hi=>by
   rw [h2.cellAt (xs.length*5+i) (by omega)]
   have:=ar6 (xs++ [.mk k t ks f u]) (b0++ [b]) (by simp [hbl]) xs.length i (by simp) hi
   rw [this]
   have e1:(xs++ [Nd.mk k t ks f u])[xs.length]'(by simp)= .mk k t ks f u:=by simp
   have e2:(b0++ [b])[xs.length]'(by simp [hbl])=b:=by rw [List.getElem_append_right (by omega)];simp [hbl]
   rw [e1,e2]
   rfl
  refine⟨g,cap,rfl,hg,hlt,hcell 0 (by decide),hcell 1 (by decide),frozen_of_row w g _ _ _ hc,fun t'=>⟨b0++ [b],by simp [hbl],?_,fun j hj hbj=> ?_⟩⟩
  ·have hs:=ak1 h2 (xs.length*5+1) (.string t')
   rw [am0 _ _ _ _ hbl] at hs⊢
   rw [List.length_append,List.length_singleton]
   have hl:=az9 xs b0 hbl
   rw [List.set_append_right _ _ (by omega),show xs.length*5+1 - (ag5 xs b0).length=1 by omega] at hs
   exact hs
  ·obtain⟨L,B,c1,c2,c3,c4⟩:=h3 j (by simpa using hj) hbj
   have hgn:=c3 g rfl
   refine⟨L,B,c1,by rw [World.size_setCell];exact c2,c3,?_⟩
   have hk:Nd.kids ((xs++ [Nd.mk k t' ks f u])[j]'hj)=Nd.kids ((xs++ [Nd.mk k t ks f u])[j]'(by simpa using hj)):=by
    by_cases hlt:j<xs.length
    ·rw [List.getElem_append_left hlt,List.getElem_append_left hlt]
    ·have hj':j=xs.length:=by simp at hj;omega
     subst hj'
     simp [Nd.kids]
   refine RowV.keeps.k (Nat.le_refl _) (Nat.le_refl _) (fun i i1 i2=>Below.heap_setCell _ _ _ _ (by show i≠g;omega)) ?_
   unfold RowV at c4⊢
   rw [hk]
   exact c4
theorem aI7 {W:World} {g:Nat} {T:TypeId} (ns:List Nd) (hk: ∀n ∈ ns,n.kids= []) (h:W.heap[g]? =some (.cells ((ns.map fun n=>((n,none,0):Kd)).flatMap aa7).toArray T (0,0))):RowP W g (g+1) ns (some ⟨g,0,none⟩) 0:=by
 refine ao5 fun j hj=>⟨g,0,rfl,?_⟩
 have hn:ns[j].kids= []:=hk _ (List.getElem_mem hj)
 have hc: ∀i,i<5→W.cell? ⟨g,j*5+i,none⟩=(aa7 (ns[j],none,0))[i]? :=fun i hi=>by
  rw [cell_of_row W g _ _ _ _ h]
  have:=aj7 (ns.map fun n=>((n,none,0):Kd)) j i (by simpa using hj) hi
  rw [List.getElem_map] at this
  rw [←this]
  simp
 rw [Nat.zero_add,Nat.zero_add,al7]
 refine⟨none,0,Nat.le_refl _,Nat.lt_succ_self _,hc 0 (by decide),hc 1 (by decide),hc 2 (by decide),hc 3 (by decide),hc 4 (by decide),?_,?_⟩
 ·rw [hn];exact Nat.le_refl _
 ·rw [hn];exact aC2 _ _ _ _ _
structure KSt (w0:World) (r:Nat) (kd:Int) (vk:Value) (K:List Nd) (W:World):Prop where
 box:aa4 W r kd ⟨#[]⟩ vk 0 0
 row:KRow RowV W (r+1) vk K
 bel:Below w0.heap.size w0 W
 lo:w0.heap.size≤r
section
variable {w0 W W' w1 w3:World} {r:Nat} {kd:Int} {vk:Value} {K:List Nd}
theorem KSt.next (h:KSt w0 r kd vk K W) (hb:Below W.heap.size W W'):KSt w0 r kd vk K W':=⟨h.box.bel hb,h.row.bel RowV.keeps hb,aa5 h.bel hb,h.lo⟩
theorem KSt.new (hb:Below w0.heap.size w0 w1) (kd:Int):KSt w0 w1.heap.size kd (.slice none 0 0) [] (w1.alloc (.cells #[.int .i64 kd,.string ⟨#[]⟩,.slice none 0 0,.int .i64 0,.int .i64 0] 26)):=⟨heap_alloc_new _ _,KRow.nil _ _ _,hb.alloc hb.size _,hb.size⟩
theorem KSt.far {o:Obj} {m:Nat} {ys:List Value} (h:KSt w0 r kd vk K w1) (ho:w1.ownsRow (r+1) 26 5 vk m ys) (hg:(w1.alloc o).grownBy w3 vk.ownBlock):w3.heap[r]? =w1.heap[r]? :=push_far hg ho h.box.lt
theorem KSt.push {x:Nd} {b:Option Addr} {cap g cap2 L B m:Nat} {o:Obj} (h:KSt w0 r kd vk K w1) (hm:K.length=m) (hL:r+1≤L) (hv: ∀g,vk.ownBlock=some g→g<L∨B≤g) (hB:B≤w1.heap.size) (hr:RowV w1 L B x b cap)
  (ho:w3.ownsRow (r+1) 26 5 (.slice (some ⟨g,0,none⟩) (m+1) cap2) (m+1) (h.row.cells++(ab7 x.kind x.text b x.kids.length cap x.from' x.till).toList)) (hg:(w1.alloc o).grownBy w3 vk.ownBlock) (hat:vk.ownBlock=some g∨g=w1.heap.size+1):
  KSt w0 r kd (.slice (some ⟨g,0,none⟩) (m+1) cap2) (K++ [x]) (w3.setCell ⟨r,2,none⟩ (.slice (some ⟨g,0,none⟩) (m+1) cap2)):=by
 have hrow:=h.row.push' RowV.keeps hm hL hv hB hr ho hg hat
 have hown:=h.row.own hm
 have hlt:=h.box.lt
 have hlo:=h.lo
 have hfar:=h.far hown hg
 refine⟨?_,?_,?_,h.lo⟩
 ·exact heap_setCell_same w3 r 2 _ 26 _ (hfar.trans h.box)
 ·exact hrow.high RowV.keeps (by rw [World.size_setCell];exact Nat.le_refl _) fun k h1 _=>Below.heap_setCell _ _ _ _ (by show k≠r;omega)
 ·refine Below.setCell (p:=⟨r,2,none⟩) ?_ hlo _
  refine(h.bel.alloc h.bel.size o).grown hg (by rw [World.size_alloc];have:=h.bel.size;omega) (fun i e=> ?_)
  have:=(hown.lt i e).1
  omega
theorem KSt.text {k f u:Int} {t:ByteArray} {ks:List Nd} (h:KSt w0 r kd vk (K++ [.mk k t ks f u]) W):
  ∃g cap,vk= .slice (some ⟨g,0,none⟩) (K.length+1) cap∧r<g∧g<W.heap.size∧W.cell? ⟨g,K.length*5,none⟩=some (.int .i64 k)∧W.cell? ⟨g,K.length*5+1,none⟩=some (.string t)∧W.frozen? ⟨g,K.length*5+1,none⟩=false∧
   ∀t',KSt w0 r kd vk (K++ [.mk k t' ks f u]) (W.setCell ⟨g,K.length*5+1,none⟩ (.string t')):=by
 obtain⟨g,cap,hv,h1,h2,h3,h4,h5,h6⟩:=h.row.text
 have hlo:=h.lo
 refine⟨g,cap,hv,h1,h2,h3,h4,h5,fun t'=>⟨?_,h6 t',Below.setCell (p:=⟨g,_,none⟩) h.bel (by show w0.heap.size≤g;omega) _,h.lo⟩⟩
 exact(Below.heap_setCell _ _ _ _ (by show r≠g;omega)).trans h.box
theorem KSt.cells (h:KSt w0 r kd vk K W):W.cell? ⟨r,0,none⟩=some (.int .i64 kd)∧W.cell? ⟨r,1,none⟩=some (.string ⟨#[]⟩)∧W.cell? ⟨r,2,none⟩=some vk∧W.cell? ⟨r,3,none⟩=some (.int .i64 0)∧W.cell? ⟨r,4,none⟩=some (.int .i64 0):=by
 obtain⟨x0,x1,x2,x3,x4,_⟩:=aa4.facts h.box
 exact⟨x0,x1,x2,x3,x4⟩
theorem KSt.v (h:KSt w0 r kd vk K W):NdV W (r+1) W.heap.size (.mk kd ⟨#[]⟩ K 0 0) (.agg #[.int .i64 kd,.string ⟨#[]⟩,vk,.int .i64 0,.int .i64 0]):=by
 obtain⟨b,cap,rfl,h1,h2⟩:=h.row.rowV
 exact⟨b,cap,rfl,h1,h2⟩
theorem KSt.rowA (h:KSt w0 r kd vk K W): ∃b cap,vk= .slice b K.length cap∧K.length≤cap∧RowA W r W.heap.size K b:=by
 obtain⟨b,cap,hv,h1,h2⟩:=h.row.rowV
 exact⟨b,cap,hv,h1,RowA.of h2 (Nat.lt_succ_self _)⟩
end
end
end Go.Proofs.YtokfgpjclmdllaaGreatDoor
