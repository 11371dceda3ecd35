/- Steps (CtP CtQ Cnu CtN CtR CtS). Conditions: as stated. -/
import Derived.Test.YtnobjeelihkjmaaGreatDoorZt38
import Derived.Test.YtnobjeelihkjmaaGreatDoorZt35
namespace Go.Proofs.YtnobjeelihkjmaaGreatDoor
section
open Go.RowKit
section
variable {s:ByteArray} {m:Bool} {i j g ne ar ar2 B:Int} {t u v w o c e tk:Tk} {n k:Nd} {p q p':Nat} {R r:List UInt8} {x:UInt8}
def ao1 (s:ByteArray) (m:Bool) (F:Nat) (B:Int) (R:List UInt8):List Nd→Nat→Prop
 | [],_=>False
 | [N],p=>Ac s m F p 41 R N B 12
 |N::N'::l,p=> ∃r,Ac s m F p 44 r N B 12∧∀q,s.data.toList.drop q=r→q≤s.size→ao1 s m F B R (N'::l) q
def bU0 (s:ByteArray) (m:Bool) (F:Nat):List Nd→PM (List Nd):=fun kids=>if 4194304<kids.length then outP else do
 let k←runQ s m (F+1) .spread
 al4 s k
 return kids++ [k]
theorem bN8 {F:Nat} {kids:List Nd} (hl:kids.length≤4194304) (hv:Ufn v) (hk:k.kind≠18) (hx:runQ s m F .assign (Zs i v 2 1 ne ar)= .ok k (Zs j u 1 1 ne ar2)):bU0 s m F kids (Zs i v 2 1 ne ar)= .ok (kids++ [k]) (Zs j u 1 1 ne ar2):=by
 unfold bU0
 rw [if_neg (by omega),PM.go (bj1 (hv.pn _ (by simp)) hx),PM.go (br5 hk _)]
 rfl
theorem aR7 {F:Nat} : ∀(Ns:List Nd) (p:Nat),ao1 s m F B R Ns p→
  ∃ns u,∃q':Nat,Opn 41 u∧u.till=(q':Int)∧s.data.toList.drop q'=R∧q'≤s.size∧ab9 ns=Ns∧ab6 ns=true∧aa4 ns≤12*Ns.length∧
   ∀(G:Nat) (kids:List Nd) (c:Bool) (tk:Tk) (ne ar:Int),Ns.length≤G→kids.length+Ns.length≤100→0≤ne→ne<B→
    ∃ar2,ao8 s ⟨#[41]⟩ 2 (bU0 s m F) G kids c (Zs p tk 0 1 ne ar)= .ok (kids++ns,false) (Zs q' u 0 1 ne ar2)
 | [],_,h=>h.elim
 | [N],p,h=>by
  obtain⟨v,k,u,q,q',a1,a0,a2,a3,a4,a5,a6,a7,a8,a9,a10⟩:=h
  refine⟨[k],u,q',a4.opn,a4.till,a4.rest,a4.le,by rw [ab9,ab9,a6],by rw [ab6,ab6,a9];rfl,by rw [aa4,aa4];simp;omega,fun G kids c tk ne ar hG hk h0 h1=> ?_⟩
  obtain⟨G,rfl⟩: ∃g,G=g+1:=⟨G - 1,by simp at hG;omega⟩
  obtain⟨ar2,hx⟩:=a5 p ne ar h0 h1
  refine⟨ar2,?_⟩
  unfold ao8
  rw [PM.go (ae4 a1),if_neg (by rw [a2.pn _ (by simp)];decide),PM.go (bN8 (by omega) a2 a7 hx),PM.go (ab4 (by decide)),if_pos a4.opn.yes,PM.go ao0,a4.till]
  rfl
 |N::N'::l,p,h=>by
  obtain⟨r,⟨v,k,u,q,q',a1,a0,a2,a3,a4,a5,a6,a7,a8,a9,a10⟩,hl⟩:=h
  obtain⟨ns,u2,q2,b1,b2,b3,b4,b5,b6,b7,b8⟩:=aR7 (N'::l) q' (hl q' a4.rest a4.le)
  refine⟨k::ns,u2,q2,b1,b2,b3,b4,by rw [ab9,a6,b5],by rw [ab6,a9,b6];rfl,by rw [aa4];simp only [List.length_cons] at b7⊢;omega,fun G kids c tk ne ar hG hk h0 h1=> ?_⟩
  simp only [List.length_cons] at hG hk
  obtain⟨G,rfl⟩: ∃g,G=g+1:=⟨G - 1,by omega⟩
  obtain⟨ar2,hx⟩:=a5 p ne ar h0 h1
  obtain⟨ar3,h3⟩:=b8 G (kids++ [k]) true u ne ar2 (by simp only [List.length_cons];omega) (by simp only [List.length_cons,List.length_append,List.length_nil];omega) h0 h1
  refine⟨ar3,?_⟩
  unfold ao8
  rw [PM.go (ae4 a1),if_neg (by rw [a2.pn _ (by simp)];decide),PM.go (bN8 (by omega) a2 a7 hx),PM.go (ab4 (by decide)),if_neg (by rw [a4.opn.no (by decide)];decide),PM.go (bk2 (ab4 (by decide)) a4.opn.yes),a4.till,h3,List.append_assoc]
  rfl
theorem bB7 {F:Nat} {Ns:List Nd} (hb:Bas s m (F+4) t n j o B) (hf:Ufn t) (hk:n.kind≠22) (ha: ¬(n.kind=1∧n.text=⟨#[97,115,121,110,99]⟩)) (ho:Opn 40 o) (hop:o.till=(p:Int)) (hl:ao1 s m F B R Ns p) (hN:Ns.length≤F+1) (hN2:Ns.length≤100):
  ∃ns,∃q':Nat,s.data.toList.drop q'=R∧q'≤s.size∧ab9 ns=Ns∧ab6 ns=true∧aa4 ns≤12*Ns.length∧
   ∀w,Sees s 1 q' w→Endy w→Una s m (F+6) t (.mk 35 ⟨#[]⟩ [n,.mk 36 ⟨#[]⟩ ns o.from' q'] n.from' q') q' w B:=by
 obtain⟨ns,u,q',b1,b2,b3,b4,b5,b6,b7,b8⟩:=aR7 Ns p hl
 refine⟨ns,q',b3,b4,b5,b6,b7,fun w hw hwe i ne ar h0 h1=> ?_⟩
 obtain⟨qq,ar1,h2,h3⟩:=hb i ne ar h0 h1
 obtain⟨ar2,h4⟩:=b8 (F+1) [] false o ne ar1 hN (by simp;omega) h0 h1
 refine⟨ar2,aK1 hf (show(35:Int)≠22 by decide) hwe ?_⟩
 have hargs:runQ s m (F+3) .args (Zs j o 1 1 ne ar1)= .ok (.mk 36 ⟨#[]⟩ ns o.from' q') (Zs q' u 0 1 ne ar2):=by
  show aX8 s (runQ s m (F+2)) _=_
  unfold aX8
  rw [PM.go (bk2 (ab4 (by decide)) ho.yes),hop]
  show ai3 s (F+1) (runQ s m (F+1)) o.from' _=_
  unfold ai3
  rw [PM.go (bC0 (show ao8 s ⟨#[41]⟩ 2 (fun kids=>if 4194304<kids.length then outP else do
   let k←runQ s m (F+1) .spread
   al4 s k
   return kids++ [k]) (F+1) ([]:List Nd) false (Zs p o 0 1 ne ar1)= .ok (ns,false) (Zs q' u 0 1 ne ar2) from h4))]
  rfl
 have hlink:runQ s m (F+4) (.link n true true) (Zs j o 1 1 ne ar1)= .ok (.mk 35 ⟨#[]⟩ [n,.mk 36 ⟨#[]⟩ ns o.from' q'] n.from' q',true) (Zs q' u 0 1 ne ar2):=by
  show aP8 s (runQ s m (F+3)) n true true _=_
  unfold aP8
  rw [PM.go (ab4 (by decide)),if_neg (by rw [ho.no (by decide)];decide),if_neg (by rw [ho.no (by decide)];decide),if_pos (by rw [ho.yes];rfl),PM.go hargs]
  rfl
 show af1 s (F+4) (runQ s m (F+4)) _=_
 unfold af1
 rw [PM.go (ab4 (by decide)),PM.go (aK6 _)]
 show(runQ s m (F+4) (.base t true)>>=_) _=_
 rw [PM.go h2,if_neg hk,if_neg (by rintro h;apply ha;revert h;simp;exact fun _ x y=>⟨x,y⟩)]
 unfold af1.linkL
 rw [PM.go h3,if_neg (by rw [ho.no (by decide)];decide),PM.go hlink,if_pos rfl]
 unfold af1.linkL
 rw [PM.go (ae4 hw),if_neg (by rw [hwe.opt];decide),PM.go (bv1 (F+3) _ true true hwe (ab4 (by decide))),if_neg (show¬((false:Bool)=true) by decide)]
 rfl
theorem bk9 {F:Nat} (hs:Sees s 2 i v):runQ s m (F+1) .assign (Zs i c 0 1 ne ar)=runQ s m (F+1) .assign (Zs i v 2 1 ne ar):=by
 show ag8 s m (runQ s m F) _=ag8 s m (runQ s m F) _
 unfold ag8
 rw [PM.go (ae4 hs),PM.go (ab4 (by decide))]
theorem bF3 {f:Nat} (hk:t.kind=1∨t.kind=4) (hn: ∀x:ByteArray,x=⟨#[103,101,116]⟩∨x=⟨#[115,101,116]⟩∨x=⟨#[97,115,121,110,99]⟩→nameT t x=false):
  runQ s m (f+2) (.members false) (Zs i t 1 1 ne ar)= .ok ⟨t.from',false,⟨#[]⟩,ag1 t.kind t,false⟩ (Zs t.till t 0 1 ne ar):=by
 have hm: ∀x:ByteArray,x=⟨#[103,101,116]⟩∨x=⟨#[115,101,116]⟩∨x=⟨#[97,115,121,110,99]⟩→aj1 s x (Zs i t 1 1 ne ar)= .ok () (Zs i t 1 1 ne ar):=by
  intro x hx
  unfold aj1
  rw [PM.go (ab4 (by decide)),if_neg (by rw [hn x hx];decide)]
  rfl
 have hkey:runQ s m (f+1) (.takeKey false) (Zs i t 1 1 ne ar)= .ok (ag1 t.kind t) (Zs t.till t 0 1 ne ar):=by
  show ar6 s _=_
  unfold ar6
  rw [PM.go (ab4 (by decide))]
  rcases hk with hk|hk
  ·rw [if_pos hk,PM.go ao0,hk]
   rfl
  ·rw [if_neg (by omega),if_pos hk,PM.go ao0,hk]
   rfl
 show aq6 s (runQ s m (f+1)) false _=_
 unfold aq6
 rw [if_neg (by decide),PM.go (ab4 (by decide))]
 unfold aU1
 rw [PM.go (hm _ (.inl rfl))]
 unfold aU1
 rw [PM.go (hm _ (.inr (.inl rfl)))]
 unfold aU1 aw0
 rw [PM.go (hm _ (.inr (.inr rfl))),PM.go (ca6 (ab4 (by decide)) (ab5 (by omega))),if_neg (by decide),PM.go hkey]
 rfl
theorem bP0 {F:Nat} (ht:Opn 123 t) (hk1:Sees s 1 t.till tk) (hkk:tk.kind=1∨tk.kind=4) (hkn: ∀x:ByteArray,x=⟨#[103,101,116]⟩∨x=⟨#[115,101,116]⟩∨x=⟨#[97,115,121,110,99]⟩→nameT tk x=false) (hc:Sees s 1 tk.till c) (hcc:Opn 58 c) (hv:Sees s 2 c.till v)
  (hx:Asg s m (F+2) v n j u B) (hu:Opn 125 u) (hw:Sees s 1 u.till w):Bas s m (F+6) t (.mk 12 ⟨#[]⟩ [.mk 13 ⟨#[]⟩ [ag1 tk.kind tk,n] tk.from' j] t.from' u.till) u.till w B:=by
 intro i ne ar h0 h1
 obtain⟨ar2,hx⟩:=hx c.till ne ar h0 h1
 refine⟨Zs u.till u 0 1 ne ar2,ar2,?_,ae4 hw⟩
 have hprop:runQ s m (F+3) .prop (Zs t.till tk 1 1 ne ar)= .ok (.mk 13 ⟨#[]⟩ [ag1 tk.kind tk,n] tk.from' j) (Zs j u 1 1 ne ar2):=by
  show ba3 s m (runQ s m (F+2)) _=_
  unfold ba3
  rw [PM.go (bF3 hkk hkn),PM.go (ae4 hc),if_neg (by rintro(h|h);rw [hcc.no (by decide)] at h;cases h;exact h rfl),if_pos hcc.yes,PM.go ao0,PM.go ((bk9 hv).trans hx)]
  rfl
 have hone:aP6 s (runQ s m (F+3)) [] (Zs t.till tk 1 1 ne ar)= .ok [.mk 13 ⟨#[]⟩ [ag1 tk.kind tk,n] tk.from' j] (Zs j u 1 1 ne ar2):=by
  unfold aP6
  rw [if_neg (by decide),PM.go (ab4 (by decide)),if_neg (by rw [ab5 (by omega)];decide),PM.go hprop]
  rfl
 have hl:ao8 s ⟨#[125]⟩ 1 (aP6 s (runQ s m (F+3))) (F+3) [] false (Zs t.till t 0 1 ne ar)= .ok ([.mk 13 ⟨#[]⟩ [ag1 tk.kind tk,n] tk.from' j],false) (Zs u.till u 0 1 ne ar2):=by
  unfold ao8
  rw [PM.go (ae4 hk1),if_neg (by rw [ab5 (by omega)];decide),PM.go hone,PM.go (ab4 (by decide)),if_pos hu.yes,PM.go ao0]
  rfl
 show aA7 (runQ s m (F+5)) t true _=_
 unfold aA7
 rw [if_neg (by rw [ht.name];decide),if_neg (by rw [ht.name];decide),if_neg (by rw [ht.name];decide)]
 show ai6 (runQ s m (F+4)) t _=_
 have hk:=ht.kind
 unfold ai6
 rw [if_neg (by omega),if_neg (by omega),if_neg (by omega),if_neg (by omega),if_neg (by rw [ht.no (by decide)];decide),if_pos ht.yes]
 show aw2 s (F+3) (runQ s m (F+3)) _=_
 unfold aw2
 rw [PM.go ao0,PM.go (bC0 hl)]
 rfl
end
end
section
open Go.RowKit
section
variable {s:ByteArray} {m:Bool} {i j g ne ar ar2 B:Int} {t u v w o c e tk:Tk} {n k:Nd} {p q p':Nat} {R r:List UInt8} {x:UInt8}
theorem bj3 {gap:List UInt8} (hg:GapC gap) (hx:x=58∨x=59) (hd:s.data.toList.drop p=gap++(x::R)) (hp:p≤s.size): ∃p' t,Tat s p 5 ⟨#[x]⟩ R p' t:=
 ax1 (a:= [x]) hg.all hd hp (by rcases hx with rfl|rfl<;>exact aZ1 (by decide)) (fun _ _=>by rcases hx with rfl|rfl<;>exact aw7 (by decide) (by decide) ((by0 (by decide)).trans rfl) (show(1:Nat)≠0 by decide))
theorem bD5 (h:Opn 59 u):Cl3 u:=⟨(aF8 h).stp,(aF8 h).q,(aF8 h).asg,(aF8 h).arr⟩
def EndC (u:Tk):Prop:=u.kind=0∨Opn 59 u
theorem EndC.cl3 (h:EndC u):Cl3 u:=h.elim br1 bD5
theorem EndC.com (h:EndC u):punctT u ⟨#[44]⟩=false:=by
 rcases h with h|h
 ·exact ab5 (by omega)
 ·exact h.no (by decide)
def endZ [CsC] (q:Nat) (u:Tk) (ne ar:Int):Ps:=if u.kind=0 then Zs q u 1 1 ne ar else Zs u.till u 0 1 ne ar
theorem bW3 (h:EndC u):am3 s (Zs q u 1 1 ne ar)= .ok () (endZ q u ne ar):=by
 unfold am3 endZ
 rw [PM.go (ab4 (by decide))]
 rcases h with h|h
 ·rw [if_pos h,if_neg (by rw [ab5 (by omega)];decide),if_neg (by rw [h];simp)]
  rfl
 ·have hk:=h.kind
  rw [if_neg (show¬u.kind=0 by omega),if_pos h.yes,PM.go ao0]
  rfl
theorem bQ0 (q:Nat) (u:Tk) (ne ar:Int):(endZ q u ne ar).at'=if u.kind=0 then (q:Int) else u.till:=by
 unfold endZ
 split<;>rfl
theorem bA6 {F:Nat} (hk:t.kind=1) (hw:ak5 t.text kwW=false) (hv:Sees s 1 t.till v) (hc:punctT v ⟨#[58]⟩=false) (hvr:punctT v ⟨#[61,62]⟩=false) (hf:Ufn t) (hn:n.kind≠22) (hu:Una s m (F+1) t n q u B) (hB:B≤4000) (he:EndC u) (h0:0≤ne) (h1:ne<B - 1):
  ∃ar2,runQ s m (F+8) (.statement t true) (Zs i t 2 1 ne ar)= .ok (.mk 57 ⟨#[]⟩ [n] t.from' (if u.kind=0 then (q:Int) else u.till)) (endZ q u ne ar2):=by
 obtain⟨ar2,h2⟩:=bp9 hu hf hn he.cl3 hv hvr hB i ne ar h0 h1
 refine⟨ar2,?_⟩
 show ai7 s m (runQ s m (F+7)) t true _=_
 unfold ai7
 have h5:t.kind≠5:=by omega
 rw [if_neg (by decide),if_neg (by rw [ab5 h5];decide),if_neg (by rw [ab5 h5];decide),if_neg (by omega),if_neg (by rw [hw];decide),PM.go (bv5 hv _),PM.go (aK6 _),if_neg (by rw [hc,Bool.and_false];decide)]
 show aw9 s (runQ s m (F+6)) t _=_
 unfold aw9
 rw [PM.go (aC8 h2 he.com),PM.go (bW3 he)]
 show Res.ok (Nd.mk 57 ⟨#[]⟩ [n] t.from' (endZ q u ne ar2).at') _=_
 rw [bQ0]
theorem aW3 {F:Nat} (h:Opn 59 t):runQ s m (F+1) (.statement t true) (Zs i t 2 1 ne ar)= .ok (.mk 59 ⟨#[]⟩ [] t.from' t.till) (Zs t.till t 0 1 ne ar):=by
 show ai7 s m (runQ s m F) t true _=_
 unfold ai7
 rw [if_neg (by decide),if_neg (by rw [h.no (by decide)];decide),if_pos h.yes,PM.go ao0]
 rfl
theorem az3 {F G:Nat} {dir:Bool} {kids:List Nd} {X:Ps} (hp:ab7 s 2 X= .ok t (Zs i t 2 1 ne ar)) (hend:t.kind≠0) (hst:runQ s m (F+1) (.statement t true) (Zs i t 2 1 (ne+1) ar)= .ok n (Zs j v g 1 (ne+1) ar2)) (h0:0≤ne) (h9:ne<4000) (hn:n.kind=59∨n.kind=57∧∃k,n.kids.head? =some k∧k.kind≠4) {T:Res (List Nd)}
  (hr: ∀dir,ac7.partL s (runQ s m (F+1)) false 0 G dir (kids++ [n]) (Zs j v g 1 ne ar2)=T):ac7.partL s (runQ s m (F+1)) false 0 (G+1) dir kids X=T:=by
 have hone:(do
   let m'←runQ s m (F+1) (.modular t false)
   if m'.kind=0 then runQ s m (F+1) (.statement t true) else return m':PM Nd) (Zs i t 2 1 (ne+1) ar)= .ok n (Zs j v g 1 (ne+1) ar2):=by
  rw [PM.go (show runQ s m (F+1) (.modular t false) _= .ok .zero _ from rfl),if_pos (show Nd.zero.kind=0 from rfl)]
  exact hst
 unfold ac7.partL
 rw [PM.go hp,if_neg (by unfold endB;rw [if_pos rfl,decide_eq_false hend];decide),PM.go (bg6 (a:=n) h0 h9 hone)]
 rcases hn with hn|⟨hn,k,e1,e2⟩
 ·rw [if_neg (by rw [hn];simp)]
  exact hr _
 ·cases dir with
  |false=>
   rw [if_neg (by simp)]
   exact hr _
  |true=>
   rw [if_pos (by rw [hn];decide),e1]
   show(if k.kind=4 then _ else _:PM (List Nd)) _=_
   rw [if_neg e2]
   exact hr _
theorem bi2 {F G:Nat} {dir:Bool} {kids:List Nd} {X Y:Ps} (hp:ab7 s 2 X= .ok t Y) (hk:t.kind=0):ac7.partL s (runQ s m F) false 0 (G+1) dir kids X= .ok kids Y:=by
 unfold ac7.partL
 rw [PM.go hp,if_pos (by unfold endB;rw [if_pos rfl,hk];rfl)]
 rfl
theorem aV3 {F:Nat} {kids:List Nd} {g:Int} (h:ac7.partL s (runQ s false (F+1)) false 0 (F+1) true [] (Zs 0 Tk.zero 0 1 0 (-1))= .ok kids (Zs j e g 1 0 ar)) (hp:ab6 kids=true) (hz:aa4 kids≤7000):
  ∃q,ao5 s false (F+3)= .ok (.mk 86 ⟨#[]⟩ kids 0 s.size) q:=by
 have hst:runQ s false (F+2) (.statements true false 0) (Zs 0 Tk.zero 0 1 0 (-1))= .ok kids (Zs j e g 1 0 ar):=h
 have hprog:runQ s false (F+3) .program (ps0 false)= .ok (.mk 86 ⟨#[]⟩ kids 0 s.size) (Zs e.till e 0 1 0 ar):=by
  show ar5 s false (runQ s false (F+2)) (Zs 0 Tk.zero 0 1 0 (-1))=_
  unfold ar5
  rw [PM.go hst,PM.go ao0]
  rfl
 have hN:aa0 (.mk 86 ⟨#[]⟩ kids 0 s.size)≤8000:=by rw [aa0];omega
 refine⟨Zs e.till e 0 1 0 ar,?_⟩
 have hd:=aY3 (.mk 86 ⟨#[]⟩ kids 0 s.size)
 unfold ao5 az6
 rw [PM.go hprog,if_neg (by rw [ad9,hp];simp),if_neg (by omega),if_neg (by omega)]
 rfl
def bq8 (Ns:List Nd):Nd:= .mk 35 ⟨#[]⟩ [lfN 1 ⟨#[102]⟩,.mk 36 ⟨#[]⟩ Ns 0 0] 0 0
def stN (Ns:List Nd):Nd:= .mk 57 ⟨#[]⟩ [bq8 Ns] 0 0
theorem aS0 {F:Nat} {Ns:List Nd} (hd:s.data.toList.drop p=102::40::r) (hp:p≤s.size) (hl: ∀q,s.data.toList.drop q=r→q≤s.size→ao1 s m (F+3) 3900 R Ns q) (hN:Ns.length≤4):
  ∃t n,∃q:Nat,Sees s 2 p t∧t.kind=1∧s.data.toList.drop q=R∧q≤s.size∧ab0 n=bq8 Ns∧n.kind=35∧ad9 n=true∧aa0 n≤60∧
   ∀u,Sees s 1 q u→EndC u→∀ne ar i:Int,0≤ne→ne<3890→∃ar2,runQ s m (F+16) (.statement t true) (Zs i t 2 1 ne ar)= .ok (.mk 57 ⟨#[]⟩ [n] t.from' (if u.kind=0 then (q:Int) else u.till)) (endZ q u ne ar2):=by
 obtain⟨p1,t,ht⟩:=be8 (x:=102) (gap:= []) g0 (by decide) (bs9 (x:=40) (.inr (.inl rfl)) r) (by rw [hd];rfl) hp
 obtain⟨p2,o,ho⟩:=aC1 (gap:= []) g0 (.inl rfl) ht.rest ht.le
 have h1:Nm t:=nm_l ht (by decide)
 have hb:Bas s m (F+3+4) t (ag1 1 t) p1 o 3900:=by
  have:=bM0 (m:=m) (B:=3900) (F+4) h1 (u:=o) (by rw [ht.till];exact ho.sees 1 (.inl rfl))
  rw [ht.till] at this
  exact this
 obtain⟨ns,q,b1,b2,b3,b4,b5,b6⟩:=bB7 hb (Ufn.nmT h1) (show(1:Int)≠22 by decide) (by rintro⟨_,h⟩;exact absurd h h1.asy) ho.opn ho.till (hl p2 ho.rest ho.le) (by omega) (by omega)
 refine⟨t,.mk 35 ⟨#[]⟩ [ag1 1 t,.mk 36 ⟨#[]⟩ ns o.from' q] (ag1 1 t).from' q,q,ht.sees 2 (.inr rfl),ht.kind,b1,b2,?_,rfl,?_,?_,fun u hu he ne ar i h0 h9=> ?_⟩
 ·rw [ab0,if_neg (by decide),ab9,ab9,ab9,ap5 1 t (by decide),ht.text,ab0,if_neg (by decide),b3]
  rfl
 ·rw [ad9,ab6,ab6,ab6,ad9,b4]
  rfl
 ·rw [aa0,aa4,aa4,aa4,aa0]
  have:aa0 (ag1 1 t)=1:=rfl
  omega
 ·have hv:=ho.sees 1 (.inl rfl)
  rw [←ht.till] at hv
  exact bA6 (F:=F+8) ht.kind (by rw [ht.text];decide) hv (ho.opn.no (by decide)) (ho.opn.no (by decide)) (Ufn.nmT h1) (show(35:Int)≠22 by decide) (b6 u hu he.cl3.stp.e) (by decide) he h0 (by omega)
theorem cc6 {F:Nat} {Ns:List Nd} (hs:s.data.toList=102::40::r) (hl: ∀q,s.data.toList.drop q=r→q≤s.size→ao1 s false (F+3) 3900 [] Ns q) (hN:Ns.length≤4):
  ∃n q,ao5 s false (F+18)= .ok n q∧ab0 n= .mk 86 ⟨#[]⟩ [stN Ns] 0 0∧aa0 n≤100:=by
 obtain⟨t,n,q,a1,a2,a3,a4,a5,a6,a7,a8,a9⟩:=aS0 (s:=s) (m:=false) (p:=0) (by rw [List.drop_zero,hs]) (Nat.zero_le _) hl hN
 obtain⟨ar2,h1⟩:=a9 (endT q) (aQ7 (.inl rfl) a3 a4) (.inl rfl) (0+1) (-1) 0 (by decide) (by decide)
 have hz: ∀ne,endZ q (endT q) ne ar2=Zs q (endT q) 1 1 ne ar2:=fun ne=>rfl
 rw [hz] at h1
 have hlist:ac7.partL s (runQ s false (F+16)) false 0 (F+16) true [] (Zs 0 Tk.zero 0 1 0 (-1))= .ok [.mk 57 ⟨#[]⟩ [n] t.from' q] (Zs q (endT q) 1 1 0 ar2):=by
  refine az3 (F:=F+15) (G:=F+15) (ae4 a1) (by omega) h1 (by decide) (by decide) (.inr ⟨rfl,n,rfl,by rw [a6];decide⟩) (fun dir=> ?_)
  exact bi2 (G:=F+14) (by1 (by decide) (by decide) (by decide) rfl) rfl
 obtain⟨q9,h9⟩:=aV3 (F:=F+15) hlist (by rw [ab6,ab6,ad9,ab6,ab6,a7];rfl) (by rw [aa4,aa4,aa0,aa4,aa4];omega)
 refine⟨_,q9,h9,?_,?_⟩
 ·rw [ab0,if_neg (by decide),ab9,ab9,ab0,if_neg (by decide),ab9,ab9,a5]
  rfl
 ·rw [aa0,aa4,aa4,aa0,aa4,aa4]
  omega
theorem cc7 {F:Nat} {Ns:List Nd} (hs:s.data.toList=59::102::40::r) (hl: ∀q,s.data.toList.drop q=r→q≤s.size→ao1 s false (F+3) 3900 [59,59] Ns q) (hN:Ns.length≤4):
  ∃n q,ao5 s false (F+18)= .ok n q∧ab0 n= .mk 86 ⟨#[]⟩ [.mk 59 ⟨#[]⟩ [] 0 0,stN Ns,.mk 59 ⟨#[]⟩ [] 0 0] 0 0∧aa0 n≤100:=by
 obtain⟨p1,z,hz1⟩:=bj3 (s:=s) (p:=0) (gap:= []) (x:=59) g0 (.inr rfl) (by rw [List.drop_zero,hs];rfl) (Nat.zero_le _)
 obtain⟨t,n,q,a1,a2,a3,a4,a5,a6,a7,a8,a9⟩:=aS0 (s:=s) (m:=false) hz1.rest hz1.le hl hN
 obtain⟨p2,y,hy⟩:=bj3 (gap:= []) (x:=59) g0 (.inr rfl) a3 a4
 obtain⟨p3,x,hx⟩:=bj3 (gap:= []) (x:=59) (R:= []) g0 (.inr rfl) hy.rest hy.le
 obtain⟨ar2,h1⟩:=a9 y (hy.sees 1 (.inl rfl)) (.inr hy.opn) (0+1) (-1) p1 (by decide) (by decide)
 have hyk:=hy.opn.kind
 have hz: ∀ne,endZ q y ne ar2=Zs p2 y 0 1 ne ar2:=fun ne=>by unfold endZ;rw [if_neg (by omega),hy.till]
 rw [hz,if_neg (by omega)] at h1
 have hlist:ac7.partL s (runQ s false (F+16)) false 0 (F+16) true [] (Zs 0 Tk.zero 0 1 0 (-1))= .ok [.mk 59 ⟨#[]⟩ [] z.from' z.till,.mk 57 ⟨#[]⟩ [n] t.from' y.till,.mk 59 ⟨#[]⟩ [] x.from' x.till] (Zs p3 (endT p3) 2 1 0 ar2):=by
  refine az3 (F:=F+15) (G:=F+15) (ae4 (hz1.sees 2 (.inr rfl))) (by rw [hz1.kind];decide) (aW3 hz1.opn) (by decide) (by decide) (.inl rfl) (fun dir=> ?_)
  rw [hz1.till]
  refine az3 (F:=F+15) (G:=F+14) (ae4 a1) (by omega) h1 (by decide) (by decide) (.inr ⟨rfl,n,rfl,by rw [a6];decide⟩) (fun dir=> ?_)
  refine az3 (F:=F+15) (G:=F+13) (ae4 (hx.sees 2 (.inr rfl))) (by rw [hx.kind];decide) (aW3 hx.opn) (by decide) (by decide) (.inl rfl) (fun dir=> ?_)
  rw [hx.till]
  exact bi2 (G:=F+12) (ae4 (aQ7 (.inr rfl) hx.rest hx.le)) rfl
 obtain⟨q9,h9⟩:=aV3 (F:=F+15) hlist (by rw [ab6,ab6,ab6,ab6,ad9,ab6,ad9,ab6,ab6,a7,ad9,ab6];rfl) (by rw [aa4,aa4,aa4,aa4,aa0,aa4,aa0,aa4,aa4,aa0,aa4];omega)
 refine⟨_,q9,h9,?_,?_⟩
 ·rw [ab0,if_neg (by decide),ab9,ab9,ab9,ab9,ab0,if_neg (by decide),ab9,ab0,if_neg (by decide),ab9,ab9,a5,ab0,if_neg (by decide),ab9]
  rfl
 ·rw [aa0,aa4,aa4,aa4,aa4,aa0,aa4,aa0,aa4,aa4,aa0,aa4]
  omega
end
end
section
open Go.RowKit
theorem bs4 {l:List UInt8} (h:DigL l):af6 l=l:=by
 unfold af6
 rw [List.filter_eq_self]
 intro c hc
 have:=h c hc
 simp only [decide_eq_true_eq,ne_eq]
 rintro rfl
 exact absurd this (by decide)
theorem aZ7 {w f:List UInt8} {pt:Bool} (h:DecL w pt f):numC ⟨(decX w pt f).toArray⟩=⟨(aC6 (ag3 ⟨w.toArray⟩ pt ⟨f.toArray⟩)).toArray⟩:=by
 have hs:=bj0 h (R:= []) (.inl rfl)
 rw [List.append_nil] at hs
 have hr:av0 ⟨(decX w pt f).toArray⟩=(ag3 ⟨w.toArray⟩ pt ⟨f.toArray⟩,true):=by
  unfold av0
  rw [hs]
  simp only
  rw [ai1 (by rfl)]
  rfl
 have hc:av4 ⟨(decX w pt f).toArray⟩=(aC6 (ag3 ⟨w.toArray⟩ pt ⟨f.toArray⟩),0):=by
  unfold av4
  rw [hr]
  rfl
 unfold numC
 rw [hc,if_pos rfl]
def powC (x:Int):List UInt8:=(if x<0 then [45] else [])++decL x.natAbs
def tenC (d:List UInt8) (k:Nat):List UInt8:=
 if d= [] then [48] else Lib.trimRightB d 48++ [101]++powC ((d.length:Int) - (Lib.trimRightB d 48).length - k)
theorem aB0 {w f:List UInt8} {pt:Bool} (h:DecL w pt f):aC6 (ag3 ⟨w.toArray⟩ pt ⟨f.toArray⟩)=tenC (Lib.trimLeftB (w++f) 48) f.length:=by
 have hd:aY6 (ag3 ⟨w.toArray⟩ pt ⟨f.toArray⟩)=Lib.trimLeftB (w++f) 48:=by
  show Lib.trimLeftB (af6 (⟨w.toArray⟩:ByteArray).data.toList++af6 (⟨f.toArray⟩:ByteArray).data.toList) 48=_
  rw [show (⟨w.toArray⟩:ByteArray).data.toList=w by simp,show(⟨f.toArray⟩:ByteArray).data.toList=f by simp,bs4 h.dig,bs4 h.fdig]
 have hv:valT (ag3 ⟨w.toArray⟩ pt ⟨f.toArray⟩)=((Lib.trimLeftB (w++f) 48).length:Int) - (Lib.trimRightB (Lib.trimLeftB (w++f) 48) 48).length - f.length:=by
  unfold valT
  rw [hd,show(af6 (ag3 ⟨w.toArray⟩ pt ⟨f.toArray⟩).part.data.toList)=f from(congrArg af6 (show(⟨f.toArray⟩:ByteArray).data.toList=f by simp)).trans (bs4 h.fdig)]
  show as2 (valN (powT _)) _ _=_
  rw [show powT (ag3 ⟨w.toArray⟩ pt ⟨f.toArray⟩)= [48] from rfl]
  show(if (false && _)=true then _ else _)+_=_
  rw [Bool.false_and,if_neg (by decide),show valN [48]=0 by decide]
  omega
 unfold aC6 tenC powC
 rw [hd,hv]
 show(if _ then [48]++([]:List UInt8) else _++([]:List UInt8))=_
 simp only [List.append_nil]
theorem bo6 (d:List UInt8):Lib.trimRightB (d++ [48]) 48=Lib.trimRightB d 48:=by
 unfold Lib.trimRightB
 rw [List.reverse_append]
 rfl
theorem aN9: ∀d:List UInt8,Lib.trimLeftB (d++ [48]) 48=if Lib.trimLeftB d 48= [] then [] else Lib.trimLeftB d 48++ [48]
 | []=>rfl
 |c::d=>by
  have ih:=aN9 d
  unfold Lib.trimLeftB at ih⊢
  by_cases h:(c==48)=true
  ·rw [List.cons_append]
   simp only [List.dropWhile_cons,h,if_true]
   exact ih
  ·rw [List.cons_append]
   simp only [List.dropWhile_cons,h]
   rw [if_neg (by simp)]
   rfl
theorem bw7 {w:List UInt8} (h0:DecL w false []) (h1:DecL w true [48]):numC ⟨w.toArray⟩=numC ⟨(w++ [46,48]).toArray⟩:=by
 have e0:=aZ7 h0
 have e1:=aZ7 h1
 rw [aB0 h0,show decX w false []=w by simp [decX],List.append_nil] at e0
 rw [aB0 h1,show decX w true [48]=w++ [46,48] from rfl,aN9] at e1
 rw [e0,e1]
 congr 2
 unfold tenC
 by_cases hd:Lib.trimLeftB w 48= []
 ·rw [if_pos hd,if_pos hd,if_pos rfl]
 ·rw [if_neg hd,if_neg hd,if_neg (by simp),bo6]
  refine congrArg (_++powC ·) ?_
  simp only [List.length_append,List.length_singleton,List.length_nil]
  omega
end
section
open Go.RowKit
theorem bD6: ∀n,DigL (decL n):=by
 intro n
 induction n using Nat.strongRecOn with
 |_ n ih=>
  intro c hc
  by_cases h:n<10
  ·rw [ad1 h] at hc
   rw [List.mem_singleton.1 hc,ad2 h]
   omega
  ·rw [decL,if_neg h,List.mem_append] at hc
   rcases hc with hc|hc
   ·exact ih (n / 10) (by omega) c hc
   ·have h9:n % 10<10:=Nat.mod_lt _ (by decide)
    rw [List.mem_singleton.1 hc,ad2 h9]
    omega
theorem br7 (n:Nat):decL n≠ []:=by
 by_cases h:n<10
 ·rw [ad1 h];simp
 ·rw [decL,if_neg h];simp
theorem bP8: ∀n,0<n→(decL n).head?≠some 48:=by
 intro n
 induction n using Nat.strongRecOn with
 |_ n ih=>
  intro h0
  by_cases h:n<10
  ·rw [ad1 h]
   intro e
   have e2:digB n=48:=by injection e
   have:=congrArg UInt8.toNat e2
   rw [ad2 h] at this
   have e3:(48:UInt8).toNat=48:=rfl
   omega
  ·rw [decL,if_neg h]
   have h1:=ih (n / 10) (by omega) (by omega)
   have h2:=br7 (n / 10)
   cases hd:decL (n / 10) with
   |nil=>exact absurd hd h2
   |cons c l=>
    rw [hd] at h1
    exact h1
theorem aS8: ∀(k n:Nat),n<10 ^ (k+1)→(decL n).length≤k+1
 |0,n,h=>by rw [ad1 (by simpa using h)];exact Nat.le_refl _
 |k+1,n,h=>by
  by_cases h9:n<10
  ·rw [ad1 h9];simp
  ·rw [decL,if_neg h9,List.length_append]
   have:=aS8 k (n / 10) (by rw [Nat.div_lt_iff_lt_mul (by decide)];rw [Nat.pow_succ] at h;omega)
   simp only [List.length_singleton]
   omega
theorem aX0: ∀n,valN (decL n)=n:=by
 intro n
 induction n using Nat.strongRecOn with
 |_ n ih=>
  by_cases h:n<10
  ·rw [ad1 h,show valN [digB n]=10*0+((digB n).toNat - 48) from rfl,ad2 h]
   omega
  ·have h9:n % 10<10:=Nat.mod_lt _ (by decide)
   rw [decL,if_neg h,aA5,ih (n / 10) (by omega),ad2 h9]
   omega
theorem bD7 {a b:Nat} (h:decL a=decL b):a=b:=by rw [←aX0 a,←aX0 b,h]
structure DgW (w:List UInt8):Prop where
 dec:DecL w false []
 len:w.length≤5
theorem bM5 {n:Nat} (h:n<65536):DgW (decL n):=by
 refine⟨⟨br7 n,bD6 n,?_,fun _ h=>(by cases h),fun _=>rfl⟩,aS8 4 n (Nat.lt_of_lt_of_le h (by decide))⟩
 by_cases h0:0<n
 ·exact .inr (bP8 n h0)
 ·obtain rfl:n=0:=by omega
  exact .inl (ad1 (by decide))
theorem DgW.cons {w:List UInt8} (h:DgW w): ∃d v,w=d::v∧(48≤d.toNat∧d.toNat≤57)∧DigL v∧v.length≤4:=by
 cases w with
 |nil=>exact absurd rfl h.dec.ne
 |cons d v=>exact⟨d,v,rfl,h.dec.dig d (.head _),fun c hc=>h.dec.dig c (.tail _ hc),by have:=h.len;simpa using this⟩
theorem ay1 {c:UInt8} (h:48≤c.toNat∧c.toNat≤57) {x:UInt8} (hx:x.toNat<48∨57<x.toNat):c≠x:=by
 rintro rfl
 omega
theorem ba5 {q:UInt8} (hq:q=39∨q=34): ∀ {w:List UInt8},DigL w→prt q (w++ [q])=(true,w.length)
 | [],_=>by rw [List.nil_append,aF3,if_pos rfl];rfl
 |c::w,h=>by
  have hc:=h c (.head _)
  have ih:=ba5 hq (w:=w) (fun d hd=>h d (.tail _ hd))
  rw [List.cons_append,aF3,if_neg (by rcases hq with rfl|rfl<;>exact ay1 hc (by decide)),af4 _ _ (by omega),if_neg (by simp only;omega),if_neg (by simp only;omega)]
  show up 1 (prt q (w++ [q]))=_
  rw [ih]
  simp [up,Nat.add_comm]
theorem bK3 {q:UInt8} (hq:q=39∨q=34) {w:List UInt8} (h:DigL w):strC (q::(w++ [q]))=(true,0):=by
 rw [strC,if_neg (by rintro⟨h1,h2⟩;rcases hq with h|h<;>contradiction),ba5 hq h,if_neg (by simp),if_pos (by simp;omega)]
theorem bh0 {d:UInt8} (h:48≤d.toNat∧d.toNat≤57):hexD d=(d.toNat:Int) - 48:=by
 unfold hexD
 rw [if_pos h]
theorem bQ3 {d:UInt8} (h:48≤d.toNat∧d.toNat≤57) (l:List UInt8):escS (92::120::51::d::l)=(true,4):=by
 have e:(nx ((92::120::51::d::l).drop 1))=(120,1):=af4 120 _ (by decide)
 have h3:=bh0 h
 unfold escS
 rw [e,if_neg (by simp only;omega),if_neg (by simp only;omega),if_neg (by simp only;omega),if_pos rfl]
 show up 2 (digN 2 (51::d::l))=_
 rw [digN,if_pos (by decide),digN,if_pos (by omega),digN]
 rfl
theorem bK4 {d:UInt8} (h:48≤d.toNat∧d.toNat≤57) {v:List UInt8} (hv:DigL v):strC (34::((92::120::51::d::v)++ [34]))=(true,0):=by
 have hp:prt 34 ((92::120::51::d::v)++ [34])=(true,v.length+4):=by
  rw [show (92::120::51::d::v)++ [34]=92::120::51::d::(v++ [34]) from rfl,aF3,if_neg (by decide),af4 _ _ (by decide),if_neg (by decide),if_pos (by decide),bQ3 h,if_pos rfl]
  show up 4 (prt 34 (v++ [34]))=_
  rw [ba5 (.inr rfl) hv]
  simp [up,Nat.add_comm]
 rw [strC,if_neg (by decide),hp,if_neg (by simp),if_pos (by simp;omega)]
theorem aC2 {q:UInt8} (hq:q=39∨q=34): ∀(f:Nat) {w:List UInt8},DigL w→w.length<f→au1 q f (w++ [q])=some (w.map UInt8.toNat)
 |0,_,_,h=>absurd h (Nat.not_lt_zero _)
 |f+1,[],_,_=>by rw [List.nil_append,au1,if_pos rfl,if_pos rfl];rfl
 |f+1,c::w,h,hl=>by
  have hc:=h c (.head _)
  rw [List.cons_append,au1,if_neg (by rcases hq with rfl|rfl<;>exact ay1 hc (by decide)),if_neg (ay1 hc (by decide)),if_pos (by omega),aC2 hq f (fun d hd=>h d (.tail _ hd)) (by simpa using hl)]
  rfl
def strN (w:List UInt8):ByteArray:=⟨(61::ai8 (w.map UInt8.toNat)).toArray⟩
theorem aK4 {q:UInt8} (hq:q=39∨q=34) {w:List UInt8} (h:DigL w):au0 ⟨(q::(w++ [q])).toArray⟩=some (w.map UInt8.toNat):=by
 unfold au0
 rw [show (⟨(q::(w++ [q])).toArray⟩:ByteArray).data.toList=q::(w++ [q]) by simp]
 simp only
 rw [if_pos hq,aC2 hq _ h (by simp)]
theorem aW4 {q:UInt8} (hq:q=39∨q=34) {w:List UInt8} (h:DigL w):aQ9 ⟨(q::(w++ [q])).toArray⟩=strN w:=by
 unfold aQ9
 rw [aK4 hq h]
 rfl
theorem aW8 {d:UInt8} (h:48≤d.toNat∧d.toNat≤57) {v:List UInt8} (hv:DigL v):au0 ⟨(34::((92::120::51::d::v)++ [34])).toArray⟩=some ((d::v).map UInt8.toNat):=by
 have h3:=bh0 h
 unfold au0
 rw [show (⟨(34::((92::120::51::d::v)++ [34])).toArray⟩:ByteArray).data.toList=34::((92::120::51::d::v)++ [34]) by simp]
 simp only
 have ho:bs7 (120::51::d::(v++ [34]))=true:=by
  unfold bs7
  rw [show escN (120::51::d::(v++ [34]))=2 from rfl,show((120::51::d::(v++ [34])).drop 1).take 2= [51,d] from rfl,List.all_cons,List.all_cons,List.all_nil,h3]
  simp only [List.length_cons,List.length_append,List.length_nil]
  rw [decide_eq_true (show(0:Int)≤(d.toNat:Int) - 48 by omega),decide_eq_true (show 2<v.length+(0+1)+1+1+1 by omega)]
  rfl
 have hl:(92::120::51::d::v++ [34]).length=(v.length+4)+1:=by simp
 rw [if_pos (by decide),hl]
 show au1 34 ((v.length+4)+1) (92::120::51::d::(v++ [34]))=_
 rw [au1,if_neg (by decide),if_pos rfl,if_pos ho]
 show(au1 34 (v.length+4) (v++ [34])).map (hexV 0 [51,d]:: ·)=_
 rw [aC2 (.inr rfl) _ hv (by omega)]
 show some (hexV 0 [51,d]::v.map UInt8.toNat)=_
 have hh:hexV 0 [51,d]=d.toNat:=by
  show(0*16+(hexD 51).toNat)*16+(hexD d).toNat=_
  rw [h3,show(hexD 51).toNat=3 from rfl]
  omega
 rw [hh]
 rfl
theorem bA8 {d:UInt8} (h:48≤d.toNat∧d.toNat≤57) {v:List UInt8} (hv:DigL v):aQ9 ⟨(34::((92::120::51::d::v)++ [34])).toArray⟩=strN (d::v):=by
 unfold aQ9
 rw [aW8 h hv]
 rfl
theorem bB8 {c d:UInt8} (hc:48≤c.toNat∧c.toNat≤57) (hd:48≤d.toNat∧d.toNat≤57) (h:ah0 c.toNat=ah0 d.toNat):c=d:=by
 have key: ∀i j:Fin 10,ah0 (48+i.val)=ah0 (48+j.val)→i=j:=by decide
 have h2:=key ⟨c.toNat - 48,by omega⟩ ⟨d.toNat - 48,by omega⟩ (by
  show ah0 (48+(c.toNat - 48))=ah0 (48+(d.toNat - 48))
  rw [show 48+(c.toNat - 48)=c.toNat by omega,show 48+(d.toNat - 48)=d.toNat by omega]
  exact h)
 have h3:=congrArg Fin.val h2
 simp only at h3
 exact UInt8.toNat.inj (by omega)
theorem aO0: ∀ {v w:List UInt8},DigL v→DigL w→ai8 (v.map UInt8.toNat)=ai8 (w.map UInt8.toNat)→v=w
 | [],[],_,_,_=>rfl
 | [],_::_,_,_,h=>by have:=congrArg List.length h;rw [an0,an0] at this;simp at this
 |_::_,[],_,_,h=>by have:=congrArg List.length h;rw [an0,an0] at this;simp at this
 |c::v,d::w,hv,hw,h=>by
  have h':ah0 c.toNat++ai8 (v.map UInt8.toNat)=ah0 d.toNat++ai8 (w.map UInt8.toNat):=h
  obtain⟨h1,h2⟩:=List.append_inj h' rfl
  rw [bB8 (hv c (.head _)) (hw d (.head _)) h1,aO0 (fun x hx=>hv x (.tail _ hx)) (fun x hx=>hw x (.tail _ hx)) h2]
theorem bK5 {v w:List UInt8} (hv:DigL v) (hw:DigL w) (h:strN v=strN w):v=w:=by
 have h2:=congrArg (fun b:ByteArray=>b.data.toList) h
 unfold strN at h2
 simp only [List.cons.injEq,true_and] at h2
 exact aO0 hv hw h2
theorem aW2: ∀ {A B X Y:List UInt8},(∀c ∈ A,c≠101)→(∀c ∈ B,c≠101)→A++101::X=B++101::Y→A=B∧X=Y
 | [],[],_,_,_,_,h=>⟨rfl,by injection h⟩
 | [],b::_,_,_,_,hB,h=>absurd (by injection h with h1 _;exact h1.symm) (hB b (.head _))
 |a::_,[],_,_,hA,_,h=>absurd (by injection h) (hA a (.head _))
 |a::A,b::B,X,Y,hA,hB,h=>by
  injection h with h1 h2
  obtain⟨h3,h4⟩:=aW2 (fun c hc=>hA c (.tail _ hc)) (fun c hc=>hB c (.tail _ hc)) h2
  exact⟨by rw [h1,h3],h4⟩
theorem aq0 (d:List UInt8):d=Lib.trimRightB d 48++List.replicate (d.length - (Lib.trimRightB d 48).length) 48:=by
 have key: ∀l:List UInt8,l=List.replicate (l.length - (l.dropWhile (· ==48)).length) 48++l.dropWhile (· ==48):=by
  intro l
  induction l with
  |nil=>rfl
  |cons c l ih=>
   have hle:(l.dropWhile (· ==48)).length≤l.length:=(List.dropWhile_sublist _).length_le
   by_cases hc:(c==48)=true
   ·rw [List.dropWhile_cons,if_pos hc,List.length_cons,show l.length+1 - (l.dropWhile (· ==48)).length=(l.length - (l.dropWhile (· ==48)).length)+1 by omega,List.replicate_succ,List.cons_append,←ih,eq_of_beq hc]
   ·rw [List.dropWhile_cons,if_neg hc,Nat.sub_self]
    rfl
 have h:=congrArg List.reverse (key d.reverse)
 rw [List.reverse_reverse,List.reverse_append,List.reverse_replicate,List.length_reverse] at h
 unfold Lib.trimRightB
 rw [List.length_reverse]
 exact h
theorem bB5 (d:List UInt8): ∀c ∈ Lib.trimRightB d 48,c ∈ d:=by
 intro c hc
 rw [aq0 d]
 exact List.mem_append_left _ hc
theorem bK6 {d e:List UInt8} (hd:DigL d) (he:DigL e) (h:tenC d 0=tenC e 0):d=e:=by
 have hno: ∀ {l:List UInt8},DigL l→∀c ∈ Lib.trimRightB l 48,c≠101:=fun hl c hc=>ay1 (hl c (bB5 _ c hc)) (by decide)
 unfold tenC at h
 by_cases h1:d= []
 ·by_cases h2:e= []
  ·rw [h1,h2]
  ·rw [if_pos h1,if_neg h2] at h
   have:(101:UInt8) ∈ [48]:=by rw [h];simp
   exact absurd this (by decide)
 ·by_cases h2:e= []
  ·rw [if_neg h1,if_pos h2] at h
   have:(101:UInt8) ∈ [48]:=by rw [←h];simp
   exact absurd this (by decide)
  ·rw [if_neg h1,if_neg h2,List.append_assoc,List.append_assoc] at h
   obtain⟨h3,h4⟩:=aW2 (hno hd) (hno he) h
   have hl1:(Lib.trimRightB d 48).length≤d.length:=by have:=congrArg List.length (aq0 d);rw [List.length_append] at this;omega
   have hl2:(Lib.trimRightB e 48).length≤e.length:=by have:=congrArg List.length (aq0 e);rw [List.length_append] at this;omega
   have hp: ∀x:Int,0≤x→powC x=decL x.natAbs:=fun x hx=>by unfold powC;rw [if_neg (by omega)];rfl
   rw [hp _ (by omega),hp _ (by omega)] at h4
   have h5:=bD7 h4
   rw [aq0 d,aq0 e,h3,show d.length - (Lib.trimRightB e 48).length=e.length - (Lib.trimRightB e 48).length by rw [h3] at h5 hl1;omega]
theorem aW7 {w:List UInt8} (h:DecL w false []):Lib.trimLeftB w 48=if w= [48] then [] else w:=by
 rcases h.hd with rfl|hh
 ·rfl
 ·rw [if_neg (by rintro rfl;exact hh rfl)]
  cases w with
  |nil=>rfl
  |cons c w=>
   unfold Lib.trimLeftB
   rw [List.dropWhile_cons,if_neg]
   rw [beq_iff_eq]
   rintro rfl
   exact hh rfl
theorem cb4 {w:List UInt8} (h:DecL w false []):numC ⟨w.toArray⟩=⟨(tenC (Lib.trimLeftB w 48) 0).toArray⟩:=by
 have e0:=aZ7 h
 rwa [aB0 h,show decX w false []=w by simp [decX],List.append_nil] at e0
theorem bI3 {v w:List UInt8} (hv:DecL v false []) (hw:DecL w false []) (h:numC ⟨v.toArray⟩=numC ⟨w.toArray⟩):v=w:=by
 rw [cb4 hv,cb4 hw] at h
 have h2:tenC (Lib.trimLeftB v 48) 0=tenC (Lib.trimLeftB w 48) 0:=by
  have:=congrArg (fun b:ByteArray=>b.data.toList) h
  simpa using this
 have hd: ∀ {l:List UInt8},DigL l→DigL (Lib.trimLeftB l 48):=fun hl c hc=>hl c ((List.dropWhile_sublist _).subset hc)
 have h3:=bK6 (hd hv.dig) (hd hw.dig) h2
 rw [aW7 hv,aW7 hw] at h3
 by_cases h4:v= [48]
 ·by_cases h5:w= [48]
  ·rw [h4,h5]
  ·rw [if_pos h4,if_neg h5] at h3
   exact absurd h3.symm hw.ne
 ·by_cases h5:w= [48]
  ·rw [if_neg h4,if_pos h5] at h3
   exact absurd h3 hv.ne
  ·rwa [if_neg h4,if_neg h5] at h3
end
section
open Go.RowKit
section
variable {s:ByteArray} {m:Bool} {B:Int} {t tk:Tk} {p q p' p2 F:Nat} {gap R r r1 w v f L:List UInt8} {x d:UInt8}
def strL (q:UInt8) (b:List UInt8):ByteArray:=⟨(q::(b++ [q])).toArray⟩
theorem bN3 {q:UInt8} (hq:q=39∨q=34) (h:DigL w): ∀c ∈ w,c≠q∧c≠10∧c≠13∧c≠92:=fun c hc=>
 ⟨by rcases hq with rfl|rfl<;>exact ay1 (h c hc) (by decide),ay1 (h c hc) (by decide),ay1 (h c hc) (by decide),ay1 (h c hc) (by decide)⟩
theorem bL9 (hB:B≤3990) (hg:GapC gap) (h:DigL w) (hx:x=41∨x=44∨x=125) (hd:s.data.toList.drop p=gap++((39::(w++ [39]))++x::r)) (hp:p≤s.size):Ac s m (F+8) p x r (lfN 4 (strL 39 w)) B 1:=by
 obtain⟨q,t,ht⟩:=bj4 (q:=39) (.inl rfl) hg (aW1 39 w (x::r) (bN3 (.inl rfl) h)) (bK3 (.inl rfl) h) hd hp
 exact aX7 hB ht (.inr rfl) (.inr rfl) hx
theorem bX7 (hB:B≤3990) (hg:GapC gap) (hd1:48≤d.toNat∧d.toNat≤57) (h:DigL v) (hx:x=41∨x=44∨x=125) (hd:s.data.toList.drop p=gap++((34::((92::120::51::d::v)++ [34]))++x::r)) (hp:p≤s.size):Ac s m (F+8) p x r (lfN 4 (strL 34 (92::120::51::d::v))) B 1:=by
 have hb: ∀c ∈ 51::d::v,c≠34∧c≠10∧c≠13∧c≠92:=by
  refine bN3 (.inr rfl) fun c hc=> ?_
  rcases List.mem_cons.1 hc with rfl|hc
  ·decide
  ·rcases List.mem_cons.1 hc with rfl|hc
   ·exact hd1
   ·exact h c hc
 obtain⟨q,t,ht⟩:=bj4 (q:=34) (.inr rfl) hg (cd5 (.inr rfl) (by decide) hb) (bK4 hd1 h) hd hp
 exact aX7 hB ht (.inr rfl) (.inr rfl) hx
theorem aL3 {pt:Bool} (hB:B≤3990) (hg:GapC gap) (h:DecL w pt f) (hx:x=41∨x=44∨x=125) (hd:s.data.toList.drop p=gap++(decX w pt f++x::r)) (hp:p≤s.size):Ac s m (F+8) p x r (lfN 3 ⟨(decX w pt f).toArray⟩) B 1:=by
 obtain⟨c,l,hc,h1⟩: ∃c l,decX w pt f=c::l∧48≤c.toNat∧c.toNat≤57:=by
  cases w with
  |nil=>exact absurd rfl h.ne
  |cons c w=>exact⟨c,w++(if pt then 46::f else []),rfl,h.dig c (.head _)⟩
 have hs:ax6 (x::r):= .of r (by rcases hx with h|h|h<;>simp [h])
 rw [hc] at hd⊢
 obtain⟨q,t,ht⟩:=bW6 hg h hc h1 hs hd hp
 refine aX7 hB ht (.inl rfl) (.inr ?_) hx
 show Lib.hasPrefix (c::l) [47]=false
 unfold Lib.hasPrefix
 rw [List.isPrefixOf,beq_eq_false_iff_ne.2 (fun e=>ay1 h1 (x:=47) (by decide) e.symm)]
 rfl
theorem bL7 {N:Nd} {K:Int} {y:ByteArray} (hB:B≤3990) (ht:Tat s p 5 ⟨#[123]⟩ L p' t) (hk:Tat s p' K y (58::r1) p2 tk) (hK:K=1∨K=4) (hkn: ∀x:ByteArray,x=⟨#[103,101,116]⟩∨x=⟨#[115,101,116]⟩∨x=⟨#[97,115,121,110,99]⟩→nameT tk x=false)
  (hv: ∀q,s.data.toList.drop q=r1→q≤s.size→Ac s m (F+2) q 125 (41::r) N (B+1) 3):Ac s m (F+12) p 41 r (.mk 12 ⟨#[]⟩ [.mk 13 ⟨#[]⟩ [lfN K y,N] 0 0] 0 0) B 12:=by
 obtain⟨p3,c,hc⟩:=bj3 (gap:= []) (x:=58) g0 (.inl rfl) hk.rest hk.le
 obtain⟨v,k,u,q,q',a1,a0,a2,a3,a4,a5,a6,a7,a8,a9,a10⟩:=hv p3 hc.rest hc.le
 obtain⟨q9,z,hz⟩:=aR1 (x:=41) (.inl rfl) a4.rest a4.le
 have hkk:=hk.kind
 refine bp6 (F:=F+5) (n:= .mk 12 ⟨#[]⟩ [.mk 13 ⟨#[]⟩ [ag1 tk.kind tk,k] tk.from' q] t.from' u.till) (q:=q') (u:=z) (ht.sees 2 (.inr rfl)) ⟨t,ht.sees 1 (.inl rfl),ht.opn.no (by decide)⟩ (Ufn.opn (.inr rfl) ht.opn) (.inl rfl) (v:=tk) (by rw [ht.till];exact hk.sees 1 (.inl rfl)) (ab5 (by omega)) hz (.inl rfl) hB (fun h _=> ?_) ?_ (show(12:Int)≠22 by decide) (show(12:Int)≠18 by decide) (by rintro⟨h,_⟩;exact absurd (show(12:Int)=1 from h) (by decide)) a4.till ?_ ?_
 ·have hb:=bP0 (w:=z) ht.opn (by rw [ht.till];exact hk.sees 1 (.inl rfl)) (by omega) hkn (by rw [hk.till];exact hc.sees 1 (.inl rfl)) hc.opn (by rw [hc.till];exact a1) a5 a4.opn (by rw [a4.till];exact h)
  rw [a4.till] at hb⊢
  exact hb
 ·rw [ab0,if_neg (by decide),ab9,ab9,ab0,if_neg (by decide),ab9,ab9,ab9,ap5 _ _ (by omega),hk.text,hkk,a6]
 ·rw [ad9,ab6,ab6,ad9,ab6,ab6,ab6,a9]
  have:ad9 (ag1 tk.kind tk)=true:=by rcases hK with h|h<;>(rw [hkk,h];rfl)
  rw [this]
  rfl
 ·rw [aa0,aa4,aa4,aa0,aa4,aa4,aa4]
  have:aa0 (ag1 tk.kind tk)=1:=rfl
  omega
def objA:Nd:= .mk 12 ⟨#[]⟩ [.mk 13 ⟨#[]⟩ [lfN 4 ⟨#[39,107,39]⟩,lfN 3 ⟨#[49]⟩] 0 0] 0 0
def objB:Nd:= .mk 12 ⟨#[]⟩ [.mk 13 ⟨#[]⟩ [lfN 1 ⟨#[107]⟩,lfN 3 ⟨#[49,46]⟩] 0 0] 0 0
theorem bZ2:DecL [49] false []:=⟨by decide,by unfold DigL;decide,.inr (by decide),by unfold DigL;decide,fun _=>rfl⟩
theorem bZ3:DecL [49] true []:=⟨by decide,by unfold DigL;decide,.inr (by decide),by unfold DigL;decide,fun h=>by cases h⟩
theorem bO6 (hB:B≤3980) (hg:GapC gap) (hd:s.data.toList.drop p=gap++(123::39::107::39::58::32::49::125::41::r)) (hp:p≤s.size):Ac s m (F+22) p 41 r objA B 12:=by
 obtain⟨p',t,ht⟩:=aC1 hg (.inr (.inr (.inr (.inl rfl)))) hd hp
 obtain⟨p2,tk,hk⟩:=bj4 (s:=s) (p:=p') (q:=39) (b:= [107]) (R:=58::32::49::125::41::r) (gap:= []) (.inl rfl) g0 (aW1 _ _ _ (by decide)) (by kernel_rfl) ht.rest ht.le
 exact bL7 (F:=F+10) (by omega) ht hk (.inr rfl) (fun x _=>aj6 (by rw [hk.kind];decide)) fun q h1 h2=>(aL3 (F:=F+4) (by omega) (gap:= [32]) (.inr rfl) bZ2 (.inr (.inr rfl)) h1 h2).mono (Int.le_refl _) (by decide)
theorem bO7 (hB:B≤3980) (hg:GapC gap) (hd:s.data.toList.drop p=gap++(123::107::58::32::40::49::46::41::125::41::r)) (hp:p≤s.size):Ac s m (F+29) p 41 r objB B 12:=by
 obtain⟨p',t,ht⟩:=aC1 hg (.inr (.inr (.inr (.inl rfl)))) hd hp
 obtain⟨p2,tk,hk⟩:=be8 (s:=s) (p:=p') (x:=107) (R:=58::32::40::49::46::41::125::41::r) (gap:= []) g0 (by decide) ⟨by kernel_rfl,by rw [af4 _ _ (by decide)];exact(show(0:Int)≤1 by decide)⟩ ht.rest ht.le
 refine bL7 (F:=F+17) (by omega) ht hk (.inl rfl) (fun x hx=>aE9 (by rw [hk.text];rcases hx with rfl|rfl|rfl<;>decide)) fun q h1 h2=>(bN7 (F:=F+8) (gap:= [32]) (.inr rfl) h1 h2 (.inr (.inr rfl)) (by omega) fun q h1 h2=>aL3 (F:=F) (by omega) (gap:= []) g0 bZ3 (.inl rfl) h1 h2).mono (Int.le_refl _) (by decide)
theorem bY1 (hw:DgW w) (hd:s.data.toList.drop p=(39::(w++ [39]))++44::32::(w++44::32::123::39::107::39::58::32::49::125::41::R)) (hp:p≤s.size):ao1 s m 40 3900 R [lfN 4 (strL 39 w),lfN 3 ⟨w.toArray⟩,objA] p:=
 ⟨_,(bL9 (F:=32) (by decide) (gap:= []) g0 hw.dec.dig (.inr (.inl rfl)) hd hp).mono (Int.le_refl _) (by decide),fun q h1 h2=>⟨_,by
  have h:=(aL3 (s:=s) (m:=m) (p:=q) (F:=32) (B:=3900) (x:=44) (r:=32::123::39::107::39::58::32::49::125::41::R) (by decide) (gap:= [32]) (.inr rfl) hw.dec (.inr (.inl rfl)) (by rw [h1];simp [decX]) h2).mono (Int.le_refl _) (show 1≤12 by decide)
  rw [show decX w false []=w by simp [decX]] at h
  exact h,fun q h1 h2=>bO6 (F:=18) (by decide) (gap:= [32]) (.inr rfl) h1 h2⟩⟩
theorem bY2 (hd1:48≤d.toNat∧d.toNat≤57) (hv:DigL v) (hw:DecL (d::v) true [48]) (hd:s.data.toList.drop p=40::((34::((92::120::51::d::v)++ [34]))++41::44::32::(((d::v)++ [46,48])++44::32::123::107::58::32::40::49::46::41::125::41::R))) (hp:p≤s.size):
  ao1 s m 40 3900 R [lfN 4 (strL 34 (92::120::51::d::v)),lfN 3 ⟨((d::v)++ [46,48]).toArray⟩,objB] p:=
 ⟨_,(bN7 (F:=29) (gap:= []) g0 hd hp (.inr (.inl rfl)) (by decide) fun q h1 h2=>bX7 (F:=21) (by decide) (gap:= []) g0 hd1 hv (.inl rfl) h1 h2).mono (Int.le_refl _) (by decide),fun q h1 h2=>⟨_,(aL3 (F:=32) (by decide) (gap:= [32]) (.inr rfl) hw (.inr (.inl rfl)) h1 h2).mono (Int.le_refl _) (by decide),fun q h1 h2=>bO7 (F:=11) (by decide) (gap:= [32]) (.inr rfl) h1 h2⟩⟩
theorem bY3 (hw:DgW w) (hd:s.data.toList.drop p=(39::(w++ [39]))++44::32::49::41::R) (hp:p≤s.size):ao1 s m 40 3900 R [lfN 4 (strL 39 w),lfN 3 ⟨#[49]⟩] p:=
 ⟨_,(bL9 (F:=32) (by decide) (gap:= []) g0 hw.dec.dig (.inr (.inl rfl)) hd hp).mono (Int.le_refl _) (by decide),fun q h1 h2=>(aL3 (F:=32) (by decide) (gap:= [32]) (.inr rfl) bZ2 (.inl rfl) h1 h2).mono (Int.le_refl _) (by decide)⟩
theorem bY4 (hw:DgW w) (hd:s.data.toList.drop p=w++41::R) (hp:p≤s.size):ao1 s m 40 3900 R [lfN 3 ⟨w.toArray⟩] p:=by
 have h:=(aL3 (s:=s) (m:=m) (p:=p) (F:=32) (B:=3900) (x:=41) (r:=R) (by decide) (gap:= []) g0 hw.dec (.inl rfl) (by rw [hd];simp [decX]) hp).mono (Int.le_refl _) (show 1≤12 by decide)
 rw [show decX w false []=w by simp [decX]] at h
 exact h
theorem bY5 (hd:s.data.toList.drop p=120::41::R) (hp:p≤s.size):ao1 s m 40 3900 R [lfN 1 ⟨#[120]⟩] p:=
 (bp7 (F:=31) (by decide) (gap:= []) g0 (by decide) (fun h=>nm_l h (by decide)) (.inl rfl) hd hp).mono (Int.le_refl _) (by decide)
theorem bY6 (hd:s.data.toList.drop p=120::44::32::120::41::R) (hp:p≤s.size):ao1 s m 40 3900 R [lfN 1 ⟨#[120]⟩,lfN 1 ⟨#[120]⟩] p:=
 ⟨_,(bp7 (F:=31) (by decide) (gap:= []) g0 (by decide) (fun h=>nm_l h (by decide)) (.inr (.inl rfl)) hd hp).mono (Int.le_refl _) (by decide),fun q h1 h2=>(bp7 (F:=31) (by decide) (gap:= [32]) (.inr rfl) (by decide) (fun h=>nm_l h (by decide)) (.inl rfl) h1 h2).mono (Int.le_refl _) (by decide)⟩
end
end
section
open Go.RowKit
def aK5 (S:ByteArray) (K:Nd):Prop:= ∃n q,ao5 S false 55= .ok n q∧aa0 n≤100∧okC (au8 n)=true∧canN (au8 n)=K
theorem ah2 (k:Int) (t:ByteArray):canN (lfN k t)=lfN k (canT k t):=by
 unfold lfN
 rw [canN,ae1]
 unfold drpN
 split
 ·rfl
 ·split
  ·rfl
  ·rfl
theorem bM3 (Ns:List Nd):canN (stN Ns)=stN (ae1 Ns):=by
 unfold stN bq8
 rw [canN,ae1,ae1,canN,ae1,ae1,ae1,ah2,canN]
 rfl
theorem aF1 {t:ByteArray} (h:t.size≤1048576):okC (lfN 3 t)=true:=by
 unfold lfN
 rw [okC,okCs]
 unfold okT
 rw [decide_eq_true h]
 rfl
theorem aQ0 {t:ByteArray} {vs:List Nat} (h:t.size≤1048576) (hu:au0 t=some vs):okC (lfN 4 t)=true:=by
 unfold lfN
 rw [okC,okCs]
 unfold okT
 rw [decide_eq_true h,hu]
 rfl
theorem cb8 {Ns:List Nd} (h:okCs Ns=true) (hl:Ns.length≤4):okC (stN Ns)=true:=by
 unfold stN bq8
 rw [okC,okCs,okCs,okC,okCs,okCs,okCs,okC,h,decide_eq_true (show Ns.length≤4194304 by omega)]
 rfl
def empN:Nd:= .mk 59 ⟨#[]⟩ [] 0 0
def pgN (l:List Nd):Nd:= .mk 86 ⟨#[]⟩ l 0 0
theorem bM2 (Ns:List Nd):canN (pgN [stN Ns])=pgN [stN (ae1 Ns)]∧canN (pgN [empN,stN Ns,empN])=pgN [stN (ae1 Ns)]:=by
 have he:canN empN=empN:=by
  unfold empN
  rw [canN,ae1]
  rfl
 refine⟨?_,?_⟩
 ·unfold pgN
  rw [canN,ae1,ae1,bM3]
  rfl
 ·unfold pgN
  rw [canN,ae1,ae1,ae1,ae1,bM3,he]
  rfl
theorem cb7 {Ns:List Nd} (h:okCs Ns=true) (hl:Ns.length≤4):okC (pgN [stN Ns])=true∧okC (pgN [empN,stN Ns,empN])=true:=by
 have he:okC empN=true:=by
  unfold empN
  rw [okC,okCs]
  rfl
 refine⟨?_,?_⟩
 ·unfold pgN
  rw [okC,okCs,okCs,cb8 h hl]
  rfl
 ·unfold pgN
  rw [okC,okCs,okCs,okCs,okCs,cb8 h hl,he]
  rfl
section
variable {S:ByteArray} {r:List UInt8} {Ns:List Nd}
theorem aJ0 (hs:S.data.toList=102::40::r) (hl: ∀q,S.data.toList.drop q=r→q≤S.size→ao1 S false 40 3900 [] Ns q) (hN:Ns.length≤4) (hok:okCs Ns=true):aK5 S (pgN [stN (ae1 Ns)]):=by
 obtain⟨n,q,h1,h2,h3⟩:=cc6 (F:=37) hs hl hN
 have e:au8 n=pgN [stN Ns]:=(aO5 (by omega)).trans h2
 exact⟨n,q,h1,h3,by rw [e];exact(cb7 hok hN).1,by rw [e];exact(bM2 Ns).1⟩
theorem bV0 (hs:S.data.toList=59::102::40::r) (hl: ∀q,S.data.toList.drop q=r→q≤S.size→ao1 S false 40 3900 [59,59] Ns q) (hN:Ns.length≤4) (hok:okCs Ns=true):aK5 S (pgN [stN (ae1 Ns)]):=by
 obtain⟨n,q,h1,h2,h3⟩:=cc7 (F:=37) hs hl hN
 have e:au8 n=pgN [empN,stN Ns,empN]:=(aO5 (by omega)).trans h2
 exact⟨n,q,h1,h3,by rw [e];exact(cb7 hok hN).2,by rw [e];exact(bM2 Ns).2⟩
end
def objK:Nd:= .mk 12 ⟨#[]⟩ [.mk 13 ⟨#[]⟩ [lfN 1 ⟨#[107]⟩,lfN 3 (numC ⟨#[49]⟩)] 0 0] 0 0
theorem bg2:canN objA=objK∧okC objA=true:=by
 refine⟨?_,by kernel_rfl⟩
 unfold objA
 rw [canN,ae1,ae1,canN,ae1,ae1,ae1,ah2,ah2]
 rfl
theorem bg3:canN objB=objK∧okC objB=true:=by
 refine⟨?_,by kernel_rfl⟩
 unfold objB
 rw [canN,ae1,ae1,canN,ae1,ae1,ae1,ah2,ah2,show canT 3 ⟨#[49,46]⟩=numC ⟨#[49]⟩ by kernel_rfl]
 rfl
def K1 (w:List UInt8):Nd:=pgN [stN [lfN 4 (strN w),lfN 3 (numC ⟨w.toArray⟩),objK]]
def K3 (w:List UInt8):Nd:=pgN [stN [lfN 4 (strN w),lfN 3 (numC ⟨#[49]⟩)]]
def K4 (w:List UInt8):Nd:=pgN [stN [lfN 3 (numC ⟨w.toArray⟩)]]
def K5:Nd:=pgN [stN [lfN 1 ⟨#[120]⟩]]
def K6:Nd:=pgN [stN [lfN 1 ⟨#[120]⟩,lfN 1 ⟨#[120]⟩]]
section
variable {S:ByteArray} {w:List UInt8}
theorem aJ8 {q:UInt8} {b:List UInt8} (h:b.length≤100):(strL q b).size≤1048576:=by
 have:(strL q b).size=b.length+2:=by
  show(q::(b++ [q])).toArray.size=_
  simp
 omega
theorem bk1 {w:List UInt8} (h:w.length≤100):(⟨w.toArray⟩:ByteArray).size≤1048576:=by
 have:(⟨w.toArray⟩:ByteArray).size=w.length:=by
  show w.toArray.size=_
  simp
 omega
theorem bU6 (hw:DgW w) (hs:S.data.toList= [102,40,39]++w++ [39,44,32]++w++ [44,32,123,39,107,39,58,32,49,125,41]):aK5 S (K1 w):=by
 have hl:=hw.len
 have h:=aJ0 (S:=S) (r:=(39::(w++ [39]))++44::32::(w++44::32::123::39::107::39::58::32::49::125::41:: [])) (by rw [hs];simp) (fun q h1 h2=>bY1 hw h1 h2) (by simp) (by
  rw [okCs,okCs,okCs,okCs,aQ0 (aJ8 (by omega)) (aK4 (.inl rfl) hw.dec.dig),aF1 (bk1 (by omega)),bg2.2]
  rfl)
 rw [ae1,ae1,ae1,ae1,ah2,ah2,bg2.1,show canT 4 (strL 39 w)=strN w from aW4 (.inl rfl) hw.dec.dig] at h
 exact h
theorem bU7 {a b:List UInt8} (hw:DgW w) (ha:a++b=w) (hs:S.data.toList= [59,102,40,40,34,92,120,51]++a++b++ [34,41,44,32]++w++ [46,48,44,32,123,107,58,32,40,49,46,41,125,41,59,59]):aK5 S (K1 w):=by
 obtain⟨d,v,rfl,hd,hv,hl⟩:=hw.cons
 have hw1:DecL (d::v) true [48]:=⟨hw.dec.ne,hw.dec.dig,hw.dec.hd,by unfold DigL;decide,fun h=>by cases h⟩
 have e: [59,102,40,40,34,92,120,51]++a++b=59::102::40::40::34::92::120::51::d::v:=by rw [List.append_assoc,ha];rfl
 rw [e] at hs
 have h:=bV0 (S:=S) (r:=40::((34::((92::120::51::d::v)++ [34]))++41::44::32::(((d::v)++ [46,48])++44::32::123::107::58::32::40::49::46::41::125::41:: [59,59]))) (by rw [hs];simp) (fun q h1 h2=>bY2 hd hv hw1 h1 h2) (by simp) (by
  rw [okCs,okCs,okCs,okCs,aQ0 (aJ8 (by simp;omega)) (aW8 hd hv),aF1 (bk1 (by simp;omega)),bg3.2]
  rfl)
 rw [ae1,ae1,ae1,ae1,ah2,ah2,bg3.1,show canT 4 (strL 34 (92::120::51::d::v))=strN (d::v) from bA8 hd hv] at h
 have e3:=(bw7 hw.dec hw1).symm
 have e4: ∀t,canT 3 t=numC t:=fun t=>rfl
 rw [e4,e3] at h
 exact h
theorem by9 (hw:DgW w) (hs:S.data.toList= [102,40,39]++w++ [39,44,32,49,41]):aK5 S (K3 w):=by
 have hl:=hw.len
 have h:=aJ0 (S:=S) (r:=(39::(w++ [39]))++44::32::49::41:: []) (by rw [hs];simp) (fun q h1 h2=>bY3 hw h1 h2) (by simp) (by
  rw [okCs,okCs,okCs,aQ0 (aJ8 (by omega)) (aK4 (.inl rfl) hw.dec.dig),aF1 (bk1 (w:= [49]) (by decide))]
  rfl)
 rw [ae1,ae1,ae1,ah2,ah2,show canT 4 (strL 39 w)=strN w from aW4 (.inl rfl) hw.dec.dig] at h
 exact h
theorem bz0 (hw:DgW w) (hs:S.data.toList= [102,40]++w++ [41]):aK5 S (K4 w):=by
 have hl:=hw.len
 have h:=aJ0 (S:=S) (r:=w++41:: []) (by rw [hs];simp) (fun q h1 h2=>bY4 hw h1 h2) (by simp) (by
  rw [okCs,okCs,aF1 (bk1 (by omega))]
  rfl)
 rw [ae1,ae1,ah2] at h
 exact h
theorem bU8 (hs:S.data.toList= [102,40,120,41]):aK5 S K5:=by
 have h:=aJ0 (S:=S) (r:=120::41:: []) hs (fun q h1 h2=>bY5 h1 h2) (by decide) (by kernel_rfl)
 rw [ae1,ae1,ah2] at h
 exact h
theorem bU9 (hs:S.data.toList= [102,40,120,44,32,120,41]):aK5 S K6:=by
 have h:=aJ0 (S:=S) (r:=120::44::32::120::41:: []) hs (fun q h1 h2=>bY6 h1 h2) (by decide) (by kernel_rfl)
 rw [ae1,ae1,ae1,ah2] at h
 exact h
end
theorem aJ4 (a:Nd):aj9 a a=true:=by
 induction a using Nd.ind with
 |h n ih=>exact(ag7 n n).2 ⟨rfl,rfl,rfl,fun i h _=>ih _ (List.getElem_mem h)⟩
theorem aQ6 {Ns Ms:List Nd} (h:aj9 (pgN [stN Ns]) (pgN [stN Ms])=true):Ns.length=Ms.length∧∀i,(h:i<Ns.length)→(h2:i<Ms.length)→aj9 Ns[i] Ms[i]=true:=by
 have h1:=((ag7 _ _).1 h).2.2.2 0 Nat.zero_lt_one Nat.zero_lt_one
 have h2:=((ag7 _ _).1 h1).2.2.2 0 Nat.zero_lt_one Nat.zero_lt_one
 have h3:=((ag7 _ _).1 h2).2.2.2 1 (show 1<2 by decide) (show 1<2 by decide)
 exact((ag7 _ _).1 h3).2.2
theorem cd3 {v w:List UInt8} (hv:DgW v) (hw:DgW w):aj9 (K3 v) (K3 w)=decide (v=w):=by
 by_cases h:v=w
 ·subst h
  rw [aJ4,decide_eq_true rfl]
 ·rw [decide_eq_false h,Bool.eq_false_iff]
  intro h1
  have h2:=(aQ6 h1).2 0 (show 0<2 by decide) (show 0<2 by decide)
  exact h (bK5 hv.dec.dig hw.dec.dig ((ag7 _ _).1 h2).2.1)
theorem cd4 {v w:List UInt8} (hv:DgW v) (hw:DgW w):aj9 (K4 v) (K4 w)=decide (v=w):=by
 by_cases h:v=w
 ·subst h
  rw [aJ4,decide_eq_true rfl]
 ·rw [decide_eq_false h,Bool.eq_false_iff]
  intro h1
  have h2:=(aQ6 h1).2 0 Nat.zero_lt_one Nat.zero_lt_one
  exact h (bI3 hv.dec hw.dec ((ag7 _ _).1 h2).2.1)
theorem bV7:aj9 K5 K6=false:=by
 rw [Bool.eq_false_iff]
 intro h
 have:=(aQ6 h).1
 simp at this
theorem bf3 (w:List UInt8):aa0 (K1 w)≤100∧aa0 (K3 w)≤100∧aa0 (K4 w)≤100∧aa0 K5≤100∧aa0 K6≤100:=by
 have hl: ∀k t,aa0 (lfN k t)=1:=fun k t=>rfl
 refine⟨?_,?_,?_,?_,?_⟩
 all_goals
  simp only [K1,K3,K4,K5,K6,pgN,stN,bq8,objK,aa0,aa4,hl]
  decide
end
end Go.Proofs.YtnobjeelihkjmaaGreatDoor
