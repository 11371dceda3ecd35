/- Steps (Jx). Conditions: as stated. -/
import Derived.Test.YtokfgpjclmdllaaGreatDoorPn42
import Derived.Test.YtokfgpjclmdllaaGreatDoorPn43
set_option maxHeartbeats 16000000
set_option maxRecDepth 100000
namespace Go.Proofs.YtokfgpjclmdllaaGreatDoor
section
open Go.RowKit
def jxK (ks:List Nat):List Nd:=(jxG ks).1++txN (jxG ks).2
theorem aK7 {k:Nat} (hk:k≠0) (ks:List Nat):jxK (ks++ [k])=jxK ks++ [jxD k]:=by
 unfold jxK
 rw [aZ8,show ai1 (jxG ks) k=((jxG ks).1++txN (jxG ks).2++ [jxD k],[]) from if_neg hk]
 exact List.append_nil _
theorem bF8 (ks:List Nat):jxK (ks++ [0])=(jxG ks).1++ [.mk 54 ⟨((jxG ks).2++ [32,116,10]).toArray⟩ [] 0 0]:=by
 unfold jxK
 rw [aZ8,show ai1 (jxG ks) 0=((jxG ks).1,(jxG ks).2++jxI 0) from if_pos rfl]
 have h:(jxG ks).2++jxI 0≠ []:=by
  intro e
  have:=congrArg List.length e
  simp [jxI] at this
 show(jxG ks).1++txN ((jxG ks).2++jxI 0)=_
 rw [txN,if_neg h]
 rfl
theorem bq2 (ks:List Nat):(jxG ks).2= []→(jxG ks).1= []∨∃D k t q,(jxG ks).1=D++ [.mk k t q 0 0]∧k≠54:=by
 have h: ∀(ks:List Nat) (a:List Nd × List UInt8),(a.2= []→a.1= []∨∃D k t q,a.1=D++ [.mk k t q 0 0]∧k≠54)→((ks.foldl ai1 a).2= []→(ks.foldl ai1 a).1= []∨∃D k t q,(ks.foldl ai1 a).1=D++ [.mk k t q 0 0]∧k≠54):=by
  intro ks
  induction ks with
  |nil=>exact fun a h=>h
  |cons k ks ih=>
   intro a _
   rw [List.foldl_cons]
   refine ih _ fun h2=> ?_
   by_cases hk:k=0
   ·rw [show ai1 a k=(a.1,a.2++jxI 0) from if_pos hk] at h2
    have:=congrArg List.length h2
    simp [jxI] at this
   ·rw [show ai1 a k=(a.1++txN a.2++ [jxD k],[]) from if_neg hk]
    match k with
    |0=>exact absurd rfl hk
    |1=>exact .inr ⟨_,52,_,_,rfl,by decide⟩
    |2=>exact .inr ⟨_,52,_,_,rfl,by decide⟩
    |_+3=>exact .inr ⟨_,47,_,_,rfl,by decide⟩
 exact h ks ([],[]) fun _=> .inl rfl
theorem bz2 (ks:List Nat):(jxK ks).length≤ks.length:=by
 have h: ∀(ks:List Nat) (a:List Nd × List UInt8),((ks.foldl ai1 a).1++txN (ks.foldl ai1 a).2).length≤(a.1++txN a.2).length+ks.length:=by
  intro ks
  induction ks with
  |nil=>exact fun a=>Nat.le_refl _
  |cons k ks ih=>
   intro a
   rw [List.foldl_cons,List.length_cons]
   refine Nat.le_trans (ih _) ?_
   by_cases hk:k=0
   ·rw [show ai1 a k=(a.1,a.2++jxI 0) from if_pos hk]
    have:(txN (a.2++jxI 0)).length≤1:=by unfold txN;split<;>simp
    rw [List.length_append,List.length_append]
    show a.1.length+(txN (a.2++jxI 0)).length+ks.length≤_
    omega
   ·rw [show ai1 a k=(a.1++txN a.2++ [jxD k],[]) from if_neg hk]
    simp [txN]
    omega
 have:=h ks ([],[])
 have e:(([]:List Nd)++txN []).length+ks.length=ks.length:=by rw [txN,if_pos rfl];exact Nat.zero_add _
 rw [e] at this
 exact this
theorem bw2 {ks:List Nat} (h:(jxG ks).2= []):jxK (ks++ [0])=jxK ks++ [.mk 54 ⟨#[32,116,10]⟩ [] 0 0]:=by
 rw [bF8,jxK,h,txN,if_pos rfl,List.append_nil]
 rfl
theorem bF9 {ks:List Nat} (h:(jxG ks).2≠ []):jxK ks=(jxG ks).1++ [.mk 54 ⟨(jxG ks).2.toArray⟩ [] 0 0]:=by rw [jxK,txN,if_neg h]
theorem bG0 {ks:List Nat} {P:ByteArray} (h:P.data.toList=(jxG ks).2):jxK (ks++ [0])=(jxG ks).1++ [.mk 54 (P++⟨#[32,116,10]⟩) [] 0 0]:=by
 rw [bF8,←h]
 have e:(⟨(P.data.toList++ [32,116,10]).toArray⟩:ByteArray)=P++⟨#[32,116,10]⟩:=by
  refine ByteArray.ext ?_
  rw [ByteArray.data_append]
  simp
 rw [e]
theorem bq3 (ks:List Nat):(jxG ks).2.length≤3*ks.length:=by
 have h: ∀(ks:List Nat) (a:List Nd × List UInt8),(ks.foldl ai1 a).2.length≤a.2.length+3*ks.length:=by
  intro ks
  induction ks with
  |nil=>exact fun a=>Nat.le_refl _
  |cons k ks ih=>
   intro a
   rw [List.foldl_cons,List.length_cons]
   refine Nat.le_trans (ih _) ?_
   by_cases hk:k=0
   ·rw [show ai1 a k=(a.1,a.2++jxI 0) from if_pos hk]
    show(a.2++ [32,116,10]).length+_≤_
    rw [List.length_append]
    simp only [List.length_cons,List.length_nil]
    omega
   ·rw [show ai1 a k=(a.1++txN a.2++ [jxD k],[]) from if_neg hk]
    simp
    omega
 have:=h ks ([],[])
 rw [show (([]:List Nd),([]:List UInt8)).2.length=0 from rfl,Nat.zero_add] at this
 exact this
structure JxSt (w0:World) (r:Nat) (vk:Value) (K:List Nd) (W:World):Prop where
 st:KSt w0 r 56 vk K W
 hi: ∀g,vk.ownBlock=some g→r+3≤g
 lf:aa4 W (r+2) 47 ⟨#[]⟩ (.slice (some ⟨r+1,0,none⟩) 3 3) 0 0
 lr:W.heap[r+1]? =some (.cells #[.int .i64 48,.string ⟨#[98]⟩,.slice none 0 0,.int .i64 0,.int .i64 0,.int .i64 49,.string ⟨#[]⟩,.slice none 0 0,.int .i64 0,.int .i64 0,.int .i64 0,.string ⟨#[]⟩,.slice none 0 0,.int .i64 0,.int .i64 0] 26 (0,0))
section
variable {w0 W W' w1 w3:World} {r:Nat} {vk:Value} {K:List Nd}
theorem JxSt.next (h:JxSt w0 r vk K W) (hb:Below W.heap.size W W'):JxSt w0 r vk K W':=⟨h.st.next hb,h.hi,h.lf.bel hb,(hb.block _ (Nat.lt_trans (Nat.lt_succ_self _) h.lf.lt)).trans h.lr⟩
theorem JxSt.push {x:Nd} {b:Option Addr} {cap g cap2 L B m:Nat} {o:Obj} (h:JxSt w0 r vk K w1) (hm:K.length=m) (hL:r+1≤L) (hv: ∀g,vk.ownBlock=some g→g<L∨B≤g) (hB:B≤w1.heap.size) (hr:RowV w1 L B x b cap)
  (ho:w3.ownsRow (r+1) 26 5 (.slice (some ⟨g,0,none⟩) (m+1) cap2) (m+1) (h.st.row.cells++(ab7 x.kind x.text b x.kids.length cap x.from' x.till).toList)) (hg:(w1.alloc o).grownBy w3 vk.ownBlock) (hat:vk.ownBlock=some g∨g=w1.heap.size+1):
  JxSt w0 r (.slice (some ⟨g,0,none⟩) (m+1) cap2) (K++ [x]) (w3.setCell ⟨r,2,none⟩ (.slice (some ⟨g,0,none⟩) (m+1) cap2)):=by
 have hlt:=h.lf.lt
 have hfar: ∀k,k<w1.heap.size→vk.ownBlock≠some k→k≠r→(w3.setCell ⟨r,2,none⟩ (.slice (some ⟨g,0,none⟩) (m+1) cap2)).heap[k]? =w1.heap[k]? :=fun k hk hne hkr=>(Below.heap_setCell _ _ _ _ hkr).trans ((hg.block k (by rw [World.size_alloc];omega) fun e=>hne e.symm).trans (Below.heap_alloc _ _ _ hk))
 refine⟨h.st.push hm hL hv hB hr ho hg hat,fun g' e=> ?_,(hfar _ hlt (fun e=>by have:=h.hi _ e;omega) (by omega)).trans h.lf,(hfar _ (by omega) (fun e=>by have:=h.hi _ e;omega) (by omega)).trans h.lr⟩
 have e':g=g':=by simpa [Value.ownBlock] using e
 subst e'
 rcases hat with e|e
 ·exact h.hi _ e
 ·omega
theorem JxSt.elem (h:JxSt w0 r vk K W):RowV W (r+1) (r+1+1) bz5 (some ⟨r+1,0,none⟩) 3:=by
 refine⟨Nat.le_refl _,aI7 [.mk 48 ⟨#[98]⟩ [] 0 0,.mk 49 ⟨#[]⟩ [] 0 0,.zero] (fun n hn=> ?_) h.lr⟩
 simp only [List.mem_cons,List.not_mem_nil,or_false] at hn
 rcases hn with rfl|rfl|rfl<;>rfl
theorem JxSt.far (h:JxSt w0 r vk K W) {L:Nat} (hL:r+1≤L) (hL2:L≤r+2): ∀g,vk.ownBlock=some g→g<r+1∨L≤g:=fun g e=> .inr (by have:=h.hi g e;omega)
theorem JxSt.fs (h:JxSt w0 r vk K W):W.cell? ⟨r,2,none⟩=some vk∧W.frozen? ⟨r,2,none⟩=false∧r<W.heap.size:=⟨(aa4.facts h.st.box).2.2.1,(aa4.facts h.st.box).2.2.2.2.2.2.2.1,h.st.box.lt⟩
theorem JxSt.text {k f u:Int} {t:ByteArray} {ks:List Nd} (h:JxSt w0 r vk (K++ [.mk k t ks f u]) W):
  ∃g cap,vk= .slice (some ⟨g,0,none⟩) (K.length+1) cap∧r+2<g∧g<W.heap.size∧W.cell? ⟨g,K.length*5,none⟩=some (.int .i64 k)∧W.cell? ⟨g,K.length*5+1,none⟩=some (.string t)∧W.frozen? ⟨g,K.length*5+1,none⟩=false∧
   ∀t',JxSt w0 r vk (K++ [.mk k t' ks f u]) (W.setCell ⟨g,K.length*5+1,none⟩ (.string t')):=by
 obtain⟨g,cap,hv,h1,h2,h3,h4,h5,h6⟩:=h.st.text
 have hg:r+3≤g:=h.hi g (by rw [hv];rfl)
 exact⟨g,cap,hv,hg,h2,h3,h4,h5,fun t'=>⟨h6 t',h.hi,(Below.heap_setCell _ _ _ _ (by show r+2≠g;omega)).trans h.lf,(Below.heap_setCell _ _ _ _ (by show r+1≠g;omega)).trans h.lr⟩⟩
theorem JxSt.kd (h:JxSt w0 r vk K W): ∃b cap,vk= .slice b K.length cap∧K.length≤cap∧RowA W r W.heap.size K b:=h.st.rowA
theorem JxSt.el (h:JxSt w0 r vk K W):NdV (W.alloc (.cells #[.int .i64 48,.string ⟨#[97]⟩,.slice none 0 0,.int .i64 0,.int .i64 0,.int .i64 49,.string ⟨#[]⟩,.slice none 0 0,.int .i64 0,.int .i64 0,.int .i64 56,.string ⟨#[]⟩,vk,.int .i64 0,.int .i64 0] 26)) 0 (W.heap.size+1)
  (.mk 47 ⟨#[]⟩ [.mk 48 ⟨#[97]⟩ [] 0 0,.mk 49 ⟨#[]⟩ [] 0 0,.mk 56 ⟨#[]⟩ K 0 0] 0 0) (.agg #[.int .i64 47,.string ⟨#[]⟩,.slice (some ⟨W.heap.size,0,none⟩) 3 3,.int .i64 0,.int .i64 0]):=by
 have hlt:=h.st.box.lt
 obtain⟨b,cap,rfl,h1,h2⟩:=h.kd
 exact⟨_,3,rfl,Nat.le_refl _,(RowA.new (w:=W) (r:=r) (T:=26) [(.mk 48 ⟨#[97]⟩ [] 0 0,none,0),(.mk 49 ⟨#[]⟩ [] 0 0,none,0),(.mk 56 ⟨#[]⟩ K 0 0,b,cap)] (fun x hx=>by
  simp only [List.mem_cons,List.not_mem_nil,or_false] at hx
  rcases hx with rfl|rfl|rfl
  ·exact⟨Nat.le_refl _,RowA.nil _ _ _ _⟩
  ·exact⟨Nat.le_refl _,RowA.nil _ _ _ _⟩
  ·exact⟨h1,h2⟩) (by omega) (heap_alloc_new _ _) fun k hk _=>Below.heap_alloc _ _ _ hk).row⟩
theorem JxSt.fr (h:JxSt w0 r vk K W):NdV (W.alloc (.cells #[.int .i64 56,.string ⟨#[]⟩,vk,.int .i64 0,.int .i64 0] 26)) 0 (W.heap.size+1)
  (.mk 55 ⟨#[]⟩ [.mk 56 ⟨#[]⟩ K 0 0] 0 0) (.agg #[.int .i64 55,.string ⟨#[]⟩,.slice (some ⟨W.heap.size,0,none⟩) 1 1,.int .i64 0,.int .i64 0]):=by
 have hlt:=h.st.box.lt
 obtain⟨b,cap,rfl,h1,h2⟩:=h.kd
 exact⟨_,1,rfl,Nat.le_refl _,(RowA.new (w:=W) (r:=r) (T:=26) [(.mk 56 ⟨#[]⟩ K 0 0,b,cap)] (fun x hx=>by
  simp only [List.mem_cons,List.not_mem_nil,or_false] at hx
  subst hx
  exact⟨h1,h2⟩) (by omega) (heap_alloc_new _ _) fun k hk _=>Below.heap_alloc _ _ _ hk).row⟩
structure JxW (w0:World) (r g:Nat) (vk:Value) (K:List Nd) (W:World):Prop where
 st:JxSt w0 r vk K W
 box:aa4 W (g+1) 47 ⟨#[]⟩ (.slice (some ⟨g,0,none⟩) 3 3) 0 0
 v:NdV W 0 (g+1) (.mk 47 ⟨#[]⟩ [.mk 48 ⟨#[97]⟩ [] 0 0,.mk 49 ⟨#[]⟩ [] 0 0,.mk 56 ⟨#[]⟩ K 0 0] 0 0) (.agg #[.int .i64 47,.string ⟨#[]⟩,.slice (some ⟨g,0,none⟩) 3 3,.int .i64 0,.int .i64 0])
theorem JxW.next {g:Nat} (h:JxW w0 r g vk K W) (hb:Below W.heap.size W W'):JxW w0 r g vk K W':=⟨h.st.next hb,h.box.bel hb,aC6 h.v (hb.mono (by have:=h.box.lt;omega))⟩
theorem JxW.cells {g:Nat} (h:JxW w0 r g vk K W):(W.cell? ⟨r,0,none⟩=some (.int .i64 56)∧W.cell? ⟨r,1,none⟩=some (.string ⟨#[]⟩)∧W.cell? ⟨r,2,none⟩=some vk∧W.cell? ⟨r,3,none⟩=some (.int .i64 0)∧W.cell? ⟨r,4,none⟩=some (.int .i64 0))∧W.cell? ⟨g+1,0,none⟩=some (.int .i64 47)∧W.cell? ⟨g+1,1,none⟩=some (.string ⟨#[]⟩)∧W.cell? ⟨g+1,2,none⟩=some (.slice (some ⟨g,0,none⟩) 3 3)∧W.cell? ⟨g+1,3,none⟩=some (.int .i64 0)∧W.cell? ⟨g+1,4,none⟩=some (.int .i64 0):=by
 obtain⟨x0,x1,x2,x3,x4,_⟩:=aa4.facts h.box
 exact⟨h.st.st.cells,x0,x1,x2,x3,x4⟩
theorem bj1 {a b:ByteArray} (h:a.size+b.size≤1000) (W:World):(Op.stringOp .add a b).run Tryz.prog W= .ok (.string (a++b)) W:=by
 have hm:IntKind.i64.max=9223372036854775807:=rfl
 unfold Op.stringOp
 simp only []
 rw [if_neg (by rw [hm];omega)]
 rfl
end
theorem au6 {w:World} {o:Obj} {g:Nat} (hg:w.heap.size=g):(w.alloc o).heap[g]? =some o:=hg▸heap_alloc_new w o
theorem bk7 {W:World} {n:Nd} (hk:n.kids= []) {T:TypeId} :RowP (W.alloc (.cells (aa7 (n,none,0)).toArray T)) W.heap.size (W.heap.size+1) [n] (some ⟨W.heap.size,0,none⟩) 0:=
 aI7 [n] (fun m hm=>by rw [List.mem_singleton.1 hm];exact hk) (heap_alloc_new W _)
theorem aD2 {k:Int} {t:ByteArray} {a:Option Addr} {n c:Nat} : ∀y ∈ ([.int .i64 k,.string t,.slice a n c,.int .i64 0,.int .i64 0]:List Value),y.oneCell'=true:=by
 intro y hy
 simp only [List.mem_cons,List.not_mem_nil,or_false] at hy
 rcases hy with rfl|rfl|rfl|rfl|rfl<;>rfl
def aJ5 (w:World) (r len:Nat) (s i:Value) (wr:World):Prop:= ∃(j:Nat) (ks:List Nat) (S:ByteArray) (vk:Value),j≤len∧j≤30∧ks.length=j∧i= .int .i64 j∧s= .string S∧S.data.toList=60::97::62::ks.flatMap jxI∧JxSt w r vk (jxK ks) wr
theorem aJ5.more {w wr:World} {r len j:Nat} {ks:List Nat} {S S':ByteArray} {vk i:Value} (k:Nat) (hlt:j<len) (h30:j<30) (hoj:ks.length=j) (hS:S.data.toList=60::97::62::ks.flatMap jxI) (hst:JxSt w r vk (jxK (ks++ [k])) wr) (hi:i= .int .i64 ((j+1:Nat):Int)) (eS:S'.data.toList=S.data.toList++jxI k):aJ5 w r len (.string S') i wr:=
 ⟨j+1,ks++ [k],S',vk,hlt,h30,by simp [hoj],hi,rfl,by rw [eS,hS,aS7];rfl,hst⟩
theorem bz0 (ao:Option Addr) (len cap:Nat) (w:World) (hc:bf2 w ao len) (hl:len≤33554432) (hx:Lx w):
  Calls Tryz.prog 6 #[.slice ao len cap] w fun e w'=>e= .returned (.bool true)∧Below w.heap.size w w':=by
 have HC:=hJ hc
 have HX:=hJ hx
 clear hc hx
 obtain⟨i0,hi,hz0,hz1,hz2⟩:=info_parts bw1
 go_enter Tryz.func6,Tryz.ntmps6
 go_wp2_with fail
 refine(bf7 w HX.out).mono ?_
 rintro e w1 ⟨rfl,hb1⟩
 go_upto_region 6 with fail
 have hs:JxSt w w1.heap.size (.slice none 0 0) (jxK []) (((w1.alloc (.cells #[.int .i64 56,.string ⟨#[]⟩,.slice none 0 0,.int .i64 0,.int .i64 0] 26)).alloc (.cells #[.int .i64 48,.string ⟨#[98]⟩,.slice none 0 0,.int .i64 0,.int .i64 0,.int .i64 49,.string ⟨#[]⟩,.slice none 0 0,.int .i64 0,.int .i64 0,.int .i64 0,.string ⟨#[]⟩,.slice none 0 0,.int .i64 0,.int .i64 0] 26)).alloc (.cells #[.int .i64 47,.string ⟨#[]⟩,.slice (some ⟨w1.heap.size+1,0,none⟩) 3 3,.int .i64 0,.int .i64 0] 26)):=by
  refine⟨((KSt.new hb1 56).next (ad2 _ _)).next (ad2 _ _),(fun _ h=>by cases h),?_,?_⟩
  ·have h:=heap_alloc_new ((w1.alloc (.cells #[.int .i64 56,.string ⟨#[]⟩,.slice none 0 0,.int .i64 0,.int .i64 0] 26)).alloc (.cells #[.int .i64 48,.string ⟨#[98]⟩,.slice none 0 0,.int .i64 0,.int .i64 0,.int .i64 49,.string ⟨#[]⟩,.slice none 0 0,.int .i64 0,.int .i64 0,.int .i64 0,.string ⟨#[]⟩,.slice none 0 0,.int .i64 0,.int .i64 0] 26)) (.cells #[.int .i64 47,.string ⟨#[]⟩,.slice (some ⟨w1.heap.size+1,0,none⟩) 3 3,.int .i64 0,.int .i64 0] 26)
   rw [World.size_alloc,World.size_alloc] at h
   exact h
  ·have h:=heap_alloc_new (w1.alloc (.cells #[.int .i64 56,.string ⟨#[]⟩,.slice none 0 0,.int .i64 0,.int .i64 0] 26)) (.cells #[.int .i64 48,.string ⟨#[98]⟩,.slice none 0 0,.int .i64 0,.int .i64 0,.int .i64 49,.string ⟨#[]⟩,.slice none 0 0,.int .i64 0,.int .i64 0,.int .i64 0,.string ⟨#[]⟩,.slice none 0 0,.int .i64 0,.int .i64 0] 26)
   rw [World.size_alloc] at h
   exact(Below.heap_alloc _ _ _ (by rw [World.size_alloc,World.size_alloc];omega)).trans h
 have HS:=hJ hs
 clear hs
 generalize World.alloc (World.alloc (World.alloc w1 _) _) _=w5 at*
 generalize w1.heap.size=r at*
 clear hb1
 go_wp2_with fail
 go_loopw [3,6,7,45,78,90] (fun s i _ _ _ _ wr=>aJ5 w r len s i wr) (fun _ i _ _ _ _ _=>30 - (intOf i).toNat)
 case atStart=>exact⟨0,[],⟨#[60,97,62]⟩,_,Nat.zero_le _,Nat.zero_le _,rfl,rfl,rfl,rfl,HS.out⟩
 case round=>
  clear HS
  obtain⟨j,ks,S,vk,hj,hj30,hoj,rfl,rfl,hS,hst⟩:=hrel
  have hSs:S.size≤123:=by rw [aJ7 hS];have:=ay9 ks;simp only [List.length_cons];omega
  have hml:=bz2 ks
  obtain⟨m,hm⟩: ∃m,(jxK ks).length=m:=⟨_,rfl⟩
  have hm30:m≤30:=by omega
  obtain⟨vb,vc,rfl,-,-⟩:=hst.st.row.rowV
  rw [hm] at hst
  have HST:=hJ hst
  have HS:=hJ hS
  have HM:=hJ hm
  have hrl:=hst.st.box.lt
  have hll:=hst.lf.lt
  obtain⟨x0,x1,x2,x3,x4,y0,y1,y2,y3,y4⟩:=aa4.facts hst.st.box
  obtain⟨l0,l1,l2,l3,l4,-⟩:=aa4.facts hst.lf
  by_cases hlt:j<len∧j<30
  ·obtain⟨hlt,hlt30⟩:=hlt
   obtain⟨b,off,rfl,hb,z,hz⟩:=HC.out j hlt
   rw [←hst.st.bel.cell (p:=⟨b,off+j,none⟩) hb] at hz
   obtain⟨a,ha,ha2⟩:=bK3 z 4 (by decide)
   replace ha:(IntKind.u64.wrap z).tmod 4=(a:Int):=ha
   clear hst hS hm hml
   have h4:a=0∨a=1∨a=2∨a=3:=by omega
   rcases h4 with h|h|h|h
   ·have ha':(IntKind.u64.wrap z).tmod 4=0:=by rw [ha,h];rfl
    clear ha h ha2
    by_cases hp:(jxG ks).2= []
    ·rcases bq2 ks hp with h0|⟨D,k,t,q,hD,hk⟩
     ·obtain rfl:m=0:=by rw [←HM.out,jxK,h0,hp];rfl
      clear h0
      go_upto_region 17 with fail
      go_wp2_with (at_builtin;refine wpList_append_lies (w:=_) (by rfl) _ _ _ (by rfl) (r+1) 26 i0 _ 5 64 (by kernel_rfl) hi hz0 hz1 hz2 (by rfl) (by decide) (.slice vb 0 vc) 0 HST.out.st.row.cells (by rfl) ((HST.out.st.row.own HM.out).alloc _) ⟨wr.heap.size,0,none⟩ 1 1 [.int .i64 54,.string ⟨#[32,116,10]⟩,.slice none 0 0,.int .i64 0,.int .i64 0] (by rfl) (by rfl) (World.news_of_block (heap_alloc_new _ _)) aD2 (by decide) (by unfold maxLen;omega) (by omega) (by simp only [World.size_alloc];omega) (wr.heap.size+1) (by simp) ?_;intro g6 c6 w6 hown6 hgrow6 hat6 hlt6;have b6:=HST.out.st.far (HST.out.st.row.own HM.out) hgrow6;have e6:=(World.cell?_of_block (a:=⟨r,2,none⟩) b6).trans (HST.out.fs).1;have f6:=(World.frozen?_of_block (a:=⟨r,2,none⟩) b6).trans (HST.out.fs).2.1;have r6:r<w6.heap.size:=(by have h1:=hgrow6.size;have h2:=(HST.out.fs).2.2;rw [World.size_alloc] at h1;omega))
      have hown:=HST.out.st.row.own HM.out
      have hst6:JxSt w r (.slice (some ⟨g6,0,none⟩) (0+1) c6) (jxK (ks++ [0])) (w6.setCell ⟨r,2,none⟩ (.slice (some ⟨g6,0,none⟩) (0+1) c6)):=by
       rw [bw2 hp]
       exact HST.out.push (x:= .mk 54 ⟨#[32,116,10]⟩ [] 0 0) (L:=wr.heap.size) (B:=wr.heap.size) (b:=none) (cap:=0) HM.out hrl (fun g e=> .inl (hown.lt g e).2) (Nat.le_refl _) ⟨Nat.le_refl _,aC2 _ _ _ _ _⟩ hown6 hgrow6 hat6
      refine⟨aJ5.more 0 hlt hlt30 hoj HS.out hst6 (by go_num) (by simp [ByteArray.data_append,jxI]),?_⟩
      simp [intOf]
      omega
     ·have hK:jxK ks=D++ [.mk k t q 0 0]:=by rw [jxK,hp,hD,txN,if_pos rfl,List.append_nil]
      have hst:=HST.out
      rw [hK] at hst
      obtain⟨g,cap,hv,g1,g2,c0,c1,f1,-⟩:=hst.st.text
      obtain⟨d,hd⟩: ∃d,D.length=d:=⟨_,rfl⟩
      rw [hd] at hv c0 c1 f1
      simp only [Value.slice.injEq] at hv
      obtain⟨rfl,rfl,rfl⟩:=hv
      have hkf:(k==54)=false:=kf hk
      have n5:((d+1:Nat):Int) - 1=(d:Int):=by omega
      have n6:(d:Int)+1 - 1=(d:Int):=by omega
      have n7:IntKind.i64.wrap (((d+1:Nat):Int) - 1)=(d:Int):=by rw [IntKind.wrap_i64];omega
      have n8:IntKind.i64.wrap ((d:Int)+1 - 1)=(d:Int):=by rw [IntKind.wrap_i64];omega
      have n9:IntKind.i64.wrap (d:Int)=(d:Int):=by rw [IntKind.wrap_i64];omega
      have n1:(d:Int)<((d+1:Nat):Int):=by omega
      have n2:(d:Int)<(d:Int)+1:=by omega
      have n3:(0:Int)≤(d:Int):=by omega
      clear hst hK hD hk
      go_upto_region 17 with fail
      go_wp2_with (at_builtin;refine wpList_append_lies (w:=_) (by rfl) _ _ _ (by rfl) (r+1) 26 i0 _ 5 64 (by kernel_rfl) hi hz0 hz1 hz2 (by rfl) (by decide) (.slice (some ⟨g,0,none⟩) (d+1) vc) (d+1) HST.out.st.row.cells (by rfl) ((HST.out.st.row.own HM.out).alloc _) ⟨wr.heap.size,0,none⟩ 1 1 [.int .i64 54,.string ⟨#[32,116,10]⟩,.slice none 0 0,.int .i64 0,.int .i64 0] (by rfl) (by rfl) (World.news_of_block (heap_alloc_new _ _)) aD2 (by decide) (by unfold maxLen;omega) (by omega) (by simp only [World.size_alloc];omega) (wr.heap.size+1) (by simp) ?_;intro g6 c6 w6 hown6 hgrow6 hat6 hlt6;have b6:=HST.out.st.far (HST.out.st.row.own HM.out) hgrow6;have e6:=(World.cell?_of_block (a:=⟨r,2,none⟩) b6).trans (HST.out.fs).1;have f6:=(World.frozen?_of_block (a:=⟨r,2,none⟩) b6).trans (HST.out.fs).2.1;have r6:r<w6.heap.size:=(by have h1:=hgrow6.size;have h2:=(HST.out.fs).2.2;rw [World.size_alloc] at h1;omega))
      have hown:=HST.out.st.row.own HM.out
      have hst6:JxSt w r (.slice (some ⟨g6,0,none⟩) ((d+1)+1) c6) (jxK (ks++ [0])) (w6.setCell ⟨r,2,none⟩ (.slice (some ⟨g6,0,none⟩) ((d+1)+1) c6)):=by
       rw [bw2 hp]
       exact HST.out.push (x:= .mk 54 ⟨#[32,116,10]⟩ [] 0 0) (L:=wr.heap.size) (B:=wr.heap.size) (b:=none) (cap:=0) HM.out hrl (fun g e=> .inl (hown.lt g e).2) (Nat.le_refl _) ⟨Nat.le_refl _,aC2 _ _ _ _ _⟩ hown6 hgrow6 hat6
      refine⟨aJ5.more 0 hlt hlt30 hoj HS.out hst6 (by go_num) (by simp [ByteArray.data_append,jxI]),?_⟩
      simp [intOf]
      omega
    ·obtain⟨P,hP⟩: ∃P:ByteArray,P.data.toList=(jxG ks).2:=⟨⟨(jxG ks).2.toArray⟩,by simp⟩
     have hK:jxK ks=(jxG ks).1++ [.mk 54 P [] 0 0]:=by
      rw [bF9 hp,←hP]
     have hPs:P.size≤90:=by rw [aJ7 hP];have:=bq3 ks;omega
     have hst:=HST.out
     rw [hK] at hst
     obtain⟨g,cap,hv,g1,g2,c0,c1,f1,hT⟩:=hst.text
     replace hT:=hT (P++⟨#[32,116,10]⟩)
     rw [←bG0 hP] at hT
     obtain⟨d,hd⟩: ∃d,(jxG ks).1.length=d:=⟨_,rfl⟩
     rw [hd] at hv c0 c1 f1 hT
     simp only [Value.slice.injEq] at hv
     obtain⟨rfl,rfl,rfl⟩:=hv
     have HT:=hJ hT
     have n5:((d+1:Nat):Int) - 1=(d:Int):=by omega
     have n6:(d:Int)+1 - 1=(d:Int):=by omega
     have n7:IntKind.i64.wrap (((d+1:Nat):Int) - 1)=(d:Int):=by rw [IntKind.wrap_i64];omega
     have n8:IntKind.i64.wrap ((d:Int)+1 - 1)=(d:Int):=by rw [IntKind.wrap_i64];omega
     have n9:IntKind.i64.wrap (d:Int)=(d:Int):=by rw [IntKind.wrap_i64];omega
     have n1:(d:Int)<((d+1:Nat):Int):=by omega
     have n2:(d:Int)<(d:Int)+1:=by omega
     have n3:(0:Int)≤(d:Int):=by omega
     clear hst hK hT hp hd
     go_upto_region 16 with fail
     go_region
     all_goals
      go_wp2_with fail
      refine⟨aJ5.more 0 hlt hlt30 hoj HS.out (HT.out.next (Below.drew (Below.refl _ _))) (by go_num) (by simp [ByteArray.data_append,jxI]),?_⟩
      simp [intOf]
      omega
   ·have ha':(IntKind.u64.wrap z).tmod 4=1:=by rw [ha,h];rfl
    clear ha h ha2
    have HCALL:=hJ (fun(W:World) (hW:Below wr.heap.size wr W)=>(bi5 ⟨#[118]⟩ W).mono (R':=fun e w'=>e= .returned (.agg #[.int .i64 1,.string ⟨#[118]⟩,.slice none 0 0,.int .i64 0,.int .i64 0])∧JxSt w r (.slice vb m vc) (jxK ks) w'∧w'.cell? ⟨r,2,none⟩=some (.slice vb m vc)∧w'.frozen? ⟨r,2,none⟩=false∧r<w'.heap.size) fun e w' ⟨h1,h2⟩=>⟨h1,(HST.out.next hW).next h2,((HST.out.next hW).next h2).fs⟩)
    go_upto_region 20 with fail
    go_region_law (first|((go_simp;(with_reducible refine(HCALL.out _ (Below.drew (Below.refl _ _))).mono ?_);rintro e w2 ⟨rfl,hst2,e2,f2,hs2⟩;have HST2:=hJ (hst2.next (ad2 w2 (.cells #[.int .i64 1,.string ⟨#[118]⟩,.slice none 0 0,.int .i64 0,.int .i64 0] 26)));have HO2:=hJ hst2))|(refine step_append_lies _ (by rfl) _ _ _ (by rfl) (r+1) 26 i0 _ 5 64 (by kernel_rfl) hi hz0 hz1 hz2 (by rfl) (by decide) (.slice vb m vc) m HST2.out.st.row.cells (by rfl) ((HST2.out.st.row.own HM.out).alloc _) ⟨w2.heap.size+1,0,none⟩ 1 1 [.int .i64 52,.string ⟨#[]⟩,.slice (some ⟨w2.heap.size,0,none⟩) 1 1,.int .i64 0,.int .i64 0] (by rfl) (by rfl) (World.news_of_block (au6 (by simp))) aD2 (by decide) (by unfold maxLen;omega) (by omega) (by simp only [World.size_alloc];omega) (w2.heap.size+1+1) (by simp) ?_;intro g6 c6 w6 hown6 hgrow6 hat6 hlt6;have b6:=HST2.out.st.far (HST2.out.st.row.own HM.out) hgrow6;have e6:=(World.cell?_of_block (a:=⟨r,2,none⟩) b6).trans (HST2.out.fs).1;have f6:=(World.frozen?_of_block (a:=⟨r,2,none⟩) b6).trans (HST2.out.fs).2.1;have r6:r<w6.heap.size:=(by have h1:=hgrow6.size;have h2:=(HST2.out.fs).2.2;rw [World.size_alloc] at h1;omega)))
    all_goals
     have hown:=HO2.out.st.row.own HM.out
     have hRV:RowV (w2.alloc (.cells #[.int .i64 1,.string ⟨#[118]⟩,.slice none 0 0,.int .i64 0,.int .i64 0] 26)) w2.heap.size (w2.heap.size+1) (jxD 1) (some ⟨w2.heap.size,0,none⟩) 1:=⟨Nat.le_refl _,bk7 (n:=idN 118) rfl⟩
     have hst6:JxSt w r (.slice (some ⟨g6,0,none⟩) (m+1) c6) (jxK (ks++ [1])) (w6.setCell ⟨r,2,none⟩ (.slice (some ⟨g6,0,none⟩) (m+1) c6)):=by
      rw [aK7 (by decide)];exact HST2.out.push (x:=jxD 1) HM.out hs2 (fun g e=> .inl (hown.lt g e).2) (by rw [World.size_alloc];exact Nat.le_refl _) hRV hown6 hgrow6 (by rw [World.size_alloc];exact hat6)
     go_wp2_with fail
     refine⟨aJ5.more 1 hlt hlt30 hoj HS.out hst6 (by go_num) (by simp [ByteArray.data_append,jxI]),?_⟩
     simp [intOf]
     omega
   ·have ha':(IntKind.u64.wrap z).tmod 4=2:=by rw [ha,h];rfl
    clear ha h ha2
    have HST2:=hJ (HST.out.next (ad2 wr (.cells #[.int .i64 0,.string ⟨#[]⟩,.slice none 0 0,.int .i64 0,.int .i64 0] 26)))
    have hown:=HST.out.st.row.own HM.out
    have hRV:RowV (wr.alloc (.cells #[.int .i64 0,.string ⟨#[]⟩,.slice none 0 0,.int .i64 0,.int .i64 0] 26)) wr.heap.size (wr.heap.size+1) (jxD 2) (some ⟨wr.heap.size,0,none⟩) 1:=⟨Nat.le_refl _,bk7 (n:= .zero) rfl⟩
    go_upto_region 23 with fail
    go_wp2_with (at_builtin;refine wpList_append_lies (w:=_) (by rfl) _ _ _ (by rfl) (r+1) 26 i0 _ 5 64 (by kernel_rfl) hi hz0 hz1 hz2 (by rfl) (by decide) (.slice vb m vc) m HST2.out.st.row.cells (by rfl) ((HST2.out.st.row.own HM.out).alloc _) ⟨wr.heap.size+1,0,none⟩ 1 1 [.int .i64 52,.string ⟨#[]⟩,.slice (some ⟨wr.heap.size,0,none⟩) 1 1,.int .i64 0,.int .i64 0] (by rfl) (by rfl) (World.news_of_block (au6 (by simp))) aD2 (by decide) (by unfold maxLen;omega) (by omega) (by simp only [World.size_alloc];omega) (wr.heap.size+1+1) (by simp) ?_;intro g6 c6 w6 hown6 hgrow6 hat6 hlt6;have b6:=HST2.out.st.far (HST2.out.st.row.own HM.out) hgrow6;have e6:=(World.cell?_of_block (a:=⟨r,2,none⟩) b6).trans (HST2.out.fs).1;have f6:=(World.frozen?_of_block (a:=⟨r,2,none⟩) b6).trans (HST2.out.fs).2.1;have r6:r<w6.heap.size:=(by have h1:=hgrow6.size;have h2:=(HST2.out.fs).2.2;rw [World.size_alloc] at h1;omega))
    have hst6:JxSt w r (.slice (some ⟨g6,0,none⟩) (m+1) c6) (jxK (ks++ [2])) (w6.setCell ⟨r,2,none⟩ (.slice (some ⟨g6,0,none⟩) (m+1) c6)):=by
     rw [aK7 (by decide)];exact HST2.out.push (x:=jxD 2) HM.out hrl (fun g e=> .inl (hown.lt g e).2) (by rw [World.size_alloc];exact Nat.le_refl _) hRV hown6 hgrow6 (by rw [World.size_alloc];exact hat6)
    refine⟨aJ5.more 2 hlt hlt30 hoj HS.out hst6 (by go_num) (by simp [ByteArray.data_append,jxI]),?_⟩
    simp [intOf]
    omega
   ·have ha':(IntKind.u64.wrap z).tmod 4=3:=by rw [ha,h];rfl
    clear ha h ha2
    go_upto_region 12 with fail
    go_wp2_with (at_builtin;refine wpList_append_lies (w:=_) (by rfl) _ _ _ (by rfl) (r+1) 26 i0 _ 5 64 (by kernel_rfl) hi hz0 hz1 hz2 (by rfl) (by decide) (.slice vb m vc) m HST.out.st.row.cells (by rfl) ((HST.out.st.row.own HM.out).alloc _) ⟨wr.heap.size,0,none⟩ 1 1 [.int .i64 47,.string ⟨#[]⟩,.slice (some ⟨r+1,0,none⟩) 3 3,.int .i64 0,.int .i64 0] (by rfl) (by rfl) (World.news_of_block (heap_alloc_new _ _)) aD2 (by decide) (by unfold maxLen;omega) (by omega) (by simp only [World.size_alloc];omega) (wr.heap.size+1) (by simp) ?_;intro g6 c6 w6 hown6 hgrow6 hat6 hlt6;have b6:=HST.out.st.far (HST.out.st.row.own HM.out) hgrow6;have e6:=(World.cell?_of_block (a:=⟨r,2,none⟩) b6).trans (HST.out.fs).1;have f6:=(World.frozen?_of_block (a:=⟨r,2,none⟩) b6).trans (HST.out.fs).2.1;have r6:r<w6.heap.size:=(by have h1:=hgrow6.size;have h2:=(HST.out.fs).2.2;rw [World.size_alloc] at h1;omega))
    have hst6:JxSt w r (.slice (some ⟨g6,0,none⟩) (m+1) c6) (jxK (ks++ [3])) (w6.setCell ⟨r,2,none⟩ (.slice (some ⟨g6,0,none⟩) (m+1) c6)):=by
     rw [aK7 (by decide)];exact HST.out.push (x:=bz5) (L:=r+1) (B:=r+1+1) HM.out (Nat.le_refl _) (HST.out.far (Nat.le_succ _) (Nat.le_refl _)) (by omega) HST.out.elem hown6 hgrow6 hat6
    refine⟨aJ5.more 3 hlt hlt30 hoj HS.out hst6 (by go_num) (by simp [ByteArray.data_append,jxI]),?_⟩
    simp [intOf]
    omega
  ·have hend:j=len∨(j=30∧30<len):=by omega
   have hks:jxN [] ks=jxK ks:=bz1 ks
   have hS3:(3:Int)≤(S.size:Int):=by rw [aJ7 hS];simp only [List.length_cons];omega
   obtain⟨Y,hY⟩: ∃Y,S.extract 3 S.size=Y:=⟨_,rfl⟩
   have hYd:Y.data.toList=ks.flatMap jxI:=by
    rw [←hY,ByteArray.data_extract,Array.toList_extract,show S.size=S.data.toList.length from(Array.length_toList).symm,hS]
    generalize ks.flatMap jxI=L
    simp [List.extract]
   have hYs:Y.size≤120:=by rw [aJ7 hYd];have:=ay9 ks;omega
   obtain⟨n1,q1,e1,b1,s1⟩:=by4 (s:=S++⟨#[60,47,97,62]⟩) 20 (ks:=ks) (by omega) (Nat.le_refl _) (by simp [ByteArray.data_append,hS])
   obtain⟨n2,q2,e2,b2,s2⟩:=by5 (s:=⟨#[60,62]⟩++Y++⟨#[60,47,62]⟩) 20 (ks:=ks) (by omega) (Nat.le_refl _) (by simp [ByteArray.data_append,hYd])
   rw [hks] at b1 b2
   have hT1:al1 (ai5 n1) (.mk 47 ⟨#[]⟩ [.mk 48 ⟨#[97]⟩ [] 0 0,.mk 49 ⟨#[]⟩ [] 0 0,.mk 56 ⟨#[]⟩ (jxK ks) 0 0] 0 0)=true:=by rw [aB5 (by omega),b1];exact aF3 _
   have hT2:al1 (ai5 n2) (.mk 55 ⟨#[]⟩ [.mk 56 ⟨#[]⟩ (jxK ks) 0 0] 0 0)=true:=by rw [aB5 (by omega),b2];exact aF3 _
   have HI1:=hJ (fun(W:World) (g:Nat) (h:JxW w r g (.slice vb m vc) (jxK ks) W)=>by
    have h2:=bm9 44 (by decide) (by rw [ByteArray.size_append];show S.size+4≤_;omega) e1 (by omega) (by rw [aB5 (by omega)];exact Nat.le_trans (aM6 n1) (by omega)) _ _ _ _ W h.v (Nat.le_of_lt h.box.lt) (HX.out.bel h.st.st.bel)
    rw [hT1] at h2
    exact h2)
   have HI2:=hJ (fun(W:World) (h:JxSt w r (.slice vb m vc) (jxK ks) W)=>by
    have h2:=bm9 44 (by decide) (by rw [ByteArray.size_append,ByteArray.size_append];show 2+Y.size+3≤_;omega) e2 (by omega) (by rw [aB5 (by omega)];exact Nat.le_trans (aM6 n2) (by omega)) _ _ _ _ _ h.fr (by rw [World.size_alloc];exact Nat.le_refl _) (HX.out.bel (aa5 h.st.bel (ad2 W _)))
    rw [hT2] at h2
    exact h2)
   clear e1 e2 b1 b2 s1 s2 hT1 hT2 hks hst hS hm HC hml
   rcases hend with rfl|⟨rfl,hl30⟩
   all_goals
    go_upto_region 25 with fail
    have hw:JxW w r wr.heap.size (.slice vb m vc) (jxK ks) ((wr.alloc (.cells #[.int .i64 48,.string ⟨#[97]⟩,.slice none 0 0,.int .i64 0,.int .i64 0,.int .i64 49,.string ⟨#[]⟩,.slice none 0 0,.int .i64 0,.int .i64 0,.int .i64 56,.string ⟨#[]⟩,.slice vb m vc,.int .i64 0,.int .i64 0] 26)).alloc (.cells #[.int .i64 47,.string ⟨#[]⟩,.slice (some ⟨wr.heap.size,0,none⟩) 3 3,.int .i64 0,.int .i64 0] 26)):=
     ⟨(HST.out.next (ad2 _ _)).next (ad2 _ _),au6 (by simp),aC6 HST.out.el ((ad2 _ _).mono (by rw [World.size_alloc];exact Nat.le_refl _))⟩
    have HW:=hJ hw
    clear hw HST
    generalize World.alloc (World.alloc wr _) _=w7 at*
    generalize wr.heap.size=gw at*
    clear x0 x1 x2 x3 x4 y0 y1 y2 y3 y4 l0 l1 l2 l3 l4 hrl hll
    have HD:=hJ (HW.out.next (Below.drew (Below.refl _ _)))
    clear HW
    have a1:=fun W=>bj1 (a:=S) (b:=⟨#[60,47,97,62]⟩) (show S.size+4≤1000 by omega) W
    have a2:=fun W=>bj1 (a:=⟨#[60,62]⟩) (b:=Y) (show 2+Y.size≤1000 by omega) W
    have a3:=fun W=>bj1 (a:=⟨#[60,62]⟩++Y) (b:=⟨#[60,47,62]⟩) (by rw [ByteArray.size_append];show 2+Y.size+3≤1000;omega) W
    go_region_held3 (fun W=>(W.cell? ⟨r,0,none⟩=some (.int .i64 56)∧W.cell? ⟨r,1,none⟩=some (.string ⟨#[]⟩)∧W.cell? ⟨r,2,none⟩=some (.slice vb m vc)∧W.cell? ⟨r,3,none⟩=some (.int .i64 0)∧W.cell? ⟨r,4,none⟩=some (.int .i64 0))∧W.cell? ⟨gw+1,0,none⟩=some (.int .i64 47)∧W.cell? ⟨gw+1,1,none⟩=some (.string ⟨#[]⟩)∧W.cell? ⟨gw+1,2,none⟩=some (.slice (some ⟨gw,0,none⟩) 3 3)∧W.cell? ⟨gw+1,3,none⟩=some (.int .i64 0)∧W.cell? ⟨gw+1,4,none⟩=some (.int .i64 0)) (first|exact HD.out.cells|exact(HD.out.next (ad2 _ _)).cells)
     (first|(go_at_call 10;(with_reducible refine(HI1.out _ _ HD.out).mono ?_);rintro e w9 ⟨rfl,hb9⟩;replace HD:=hJ (HD.out.next hb9);clear hb9)|(go_at_call 10;have hh:=HI2.out _ HD.out.st;refine hh.mono ?_;clear hh;rintro e w10 ⟨rfl,hb9⟩;replace HD:=hJ (HD.out.next (aa5 (ad2 _ _) hb9));clear hb9))
    all_goals
     go_wp2_with fail
     go_ret
     exact⟨rfl,HD.out.st.st.bel⟩
end
end Go.Proofs.YtokfgpjclmdllaaGreatDoor
