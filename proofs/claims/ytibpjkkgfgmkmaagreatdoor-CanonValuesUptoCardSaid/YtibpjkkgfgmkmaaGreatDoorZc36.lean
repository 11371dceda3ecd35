/- Steps (LnD). Conditions: as stated. -/
import Derived.Test.YtibpjkkgfgmkmaaGreatDoorZc35
namespace Go.Proofs.YtibpjkkgfgmkmaaGreatDoor
section
open Go.RowKit
theorem aU1 (q:UInt8): ∀(b l:List UInt8),(∀c ∈ b,c≠q∧c≠10∧c≠13∧c≠92)→sc q (b++q::l)=b.length
 | [],l,_=>by rw [List.nil_append,aH1,if_pos (.inl rfl)];rfl
 |c::b,l,h=>by
  obtain⟨h1,h2,h3,h4⟩:=h c (.head _)
  rw [List.cons_append,aH1,if_neg (by rintro(e|e|e)<;>contradiction),if_neg h4,aU1 q b l (fun c hc=>h c (.tail _ hc)),List.length_cons]
  omega
section
variable {s:ByteArray}
theorem aV3 {r:List UInt8} : ∀(gap:List UInt8) (p:Nat) (line:Bool),(∀c ∈ gap,c=32∨c=10)→s.data.toList.drop p=gap++r→∃line',btw s p line=btw s (p+gap.length) line'
 | [],p,line,_,_=>⟨line,rfl⟩
 |c::gap,p,line,h,hd=>by
  have hc:=h c (.head _)
  have hlt:=bV1 (c:=c) (l:=gap++r) hd
  have h1:aq9 (c::(gap++r))=true:=by
   unfold aq9
   rcases hc with rfl|rfl<;>(rw [ad8 _ _ (by decide)];rfl)
  have h2:(nx (c::(gap++r))).2.toNat=1:=by rcases hc with rfl|rfl<;>(rw [ad8 _ _ (by decide)];rfl)
  obtain⟨l',e⟩:=aV3 gap (p+1) (line||aq8 (nx (c::(gap++r))).1) (fun c hc=>h c (.tail _ hc)) (bO4 hd)
  refine⟨l',?_⟩
  rw [aM6 s p line (by omega),hd,List.cons_append,if_pos h1,h2,e,List.length_cons,show p+1+gap.length=p+(gap.length+1) by omega]
theorem bD3 {gap a l:List UInt8} {kind:Int} {p:Nat} (hgap: ∀c ∈ gap,c=32∨c=10) (hd:s.data.toList.drop p=gap++(a++l)) (hp:p≤s.size) (hi:Ink0 (a++l)) (ht: ∀g:Int,g=1∨g=2→af8 g (a++l)= .fine kind a.length):
  ∃t:Tk,t.kind=kind∧t.text=⟨a.toArray⟩∧t.till=((p+gap.length+a.length:Nat):Int)∧∀g:Int,g=1∨g=2→Sees s g p t:=by
 obtain⟨line,hb⟩:=aV3 gap p false hgap hd
 have hq:=aL6 hd
 have hf:=aH7 hd hp
 refine⟨⟨kind,⟨a.toArray⟩,((p+gap.length:Nat):Int),((p+gap.length+a.length:Nat):Int),line⟩,rfl,rfl,rfl,fun g hg=> ?_⟩
 refine⟨by omega,by omega,p+gap.length,a.length,?_,?_⟩
 ·rw [Int.toNat_natCast]
  have hb2:btw s p false= .fine (p+gap.length) line []:=hb.trans (aV4 hq hf ⟨hi.1,hi.2 _⟩)
  have ht2:=ht g hg
  rw [←hq] at ht2
  unfold nxt tokT
  rcases hg with rfl|rfl<;>
  ·rw [if_neg (by rintro(h|h|⟨h,_⟩)<;>omega),if_neg (by decide),hb2]
   simp only
   rw [if_neg (by decide),if_neg (by decide),if_neg (by decide),ht2]
 ·unfold tkOf
  rw [aD7 hq]
end
section
variable {s:ByteArray} {m:Bool} {i j ne ar ar2:Int} {t u v w b o e:Tk} {n r:Nd} {p:Ps} {f:Nat}
structure Tat (s:ByteArray) (p:Nat) (kind:Int) (x:ByteArray) (l:List UInt8) (p':Nat) (t:Tk):Prop where
 kind:t.kind=kind
 text:t.text=x
 till:t.till=(p':Int)
 sees: ∀g:Int,g=1∨g=2→Sees s g p t
 rest:s.data.toList.drop p'=l
 le:p'≤s.size
theorem aw1 {gap a l:List UInt8} {kind:Int} {p:Nat} (hgap: ∀c ∈ gap,c=32∨c=10) (hd:s.data.toList.drop p=gap++(a++l)) (hp:p≤s.size) (hi:Ink0 (a++l)) (ht: ∀g:Int,g=1∨g=2→af8 g (a++l)= .fine kind a.length):
  ∃p' t,Tat s p kind ⟨a.toArray⟩ l p' t:=by
 obtain⟨t,e1,e2,e3,e4⟩:=bD3 hgap hd hp hi ht
 refine⟨_,t,e1,e2,e3,e4,aL6 (aL6 hd),?_⟩
 have h1:=aH7 hd hp
 have h2:=aH7 (aL6 hd) h1
 exact h2
theorem Tat.opn {c:UInt8} {p p':Nat} {l:List UInt8} (h:Tat s p 5 ⟨#[c]⟩ l p' t):Opn c t:=⟨h.kind,h.text⟩
theorem Tat.go {k:Int} {x:ByteArray} {p p':Nat} {l:List UInt8} (h:Tat s p k x l p' t):t.till=(p':Int):=h.till
end
end
end Go.Proofs.YtibpjkkgfgmkmaaGreatDoor
