/- Steps (Stp). Conditions: as stated. -/
import Derived.Test.YtnobjeelihkjmaaGreatDoorZk05
namespace Go.Proofs.YtnobjeelihkjmaaGreatDoor
section
open Go.RowKit
theorem NdW.low {w:World} {L L' B:Nat} {n:Nd} {v:Value} (h:NdW w L B n v) (hL:L'≤L):NdW w L' B n v:=by
 obtain⟨b,cap,h1,h2⟩:=h
 exact⟨b,cap,h1,RowE.keeps.k hL (Nat.le_refl _) (fun _ _ _=>rfl) h2⟩
theorem NdV.low {w:World} {L L' B B':Nat} {n:Nd} {v:Value} (h:NdV w L B n v) (hL:L'≤L) (hB:B≤B'):NdV w L' B' n v:=by
 obtain⟨b,cap,h1,h2,h3⟩:=h
 exact⟨b,cap,h1,h2,ag9 hL hB (fun _ _ _=>rfl) h3⟩
theorem be8 {fn:Func} (h:fn.results= #[.cell 2 27,.tmp 3]) {tmps:Array Value} {w:World} {b:Nat} {k:Int} {t:ByteArray} {v:Value} {f u:Int} {z:Value}
  (h2:tmps.getD 2 undef= .pointer (some ⟨b,0,none⟩)) (h3:tmps.getD 3 undef=z) (hb:aa6 w b k t v f u):
  (results fn tmps).run Tryz.prog w= .ok (.tuple #[.agg #[.int .i64 k,.string t,v,.int .i64 f,.int .i64 u],z]) w:=by
 have e2:tmps[2]?.getD undef= .pointer (some ⟨b,0,none⟩):=by simpa using h2
 have e3:tmps[3]?.getD undef=z:=by simpa using h3
 have r2:=run_loadVar_row (P:=Tryz.prog) w b _ 27 _ _ _ hb Tryz.underlying27 rfl (by kernel_rfl)
 simp [results,h,e2,e3,asAddr,r2]
theorem bJ9 (i:Int) (n:Nat) (hn:0<n): ∃a:Nat,(IntKind.u64.wrap i).tmod n=(a:Int)∧a<n:=by
 have e:IntKind.u64.wrap i=i % 18446744073709551616:=rfl
 have h1:0≤(IntKind.u64.wrap i).tmod n:=by rw [e,Int.tmod_eq_emod_of_nonneg (by omega)];exact Int.emod_nonneg _ (by omega)
 have h2:(IntKind.u64.wrap i).tmod n<n:=by rw [e,Int.tmod_eq_emod_of_nonneg (by omega)];exact Int.emod_lt_of_pos _ (by omega)
 exact⟨((IntKind.u64.wrap i).tmod n).toNat,by omega,by omega⟩
def StrS (g:Nat) (l:List (List UInt8)) (W:World):Prop:=g<W.heap.size∧∀a,(h:a<l.length)→W.cell? ⟨g,a,none⟩=some (.string ⟨l[a].toArray⟩)
theorem StrS.new (w:World) (l:List (List UInt8)) (T:TypeId):StrS w.heap.size l (w.alloc (.cells (l.map fun o=>Value.string ⟨o.toArray⟩).toArray T)):=by
 refine⟨by rw [World.size_alloc];exact Nat.lt_succ_self _,fun a h=> ?_⟩
 rw [cell_of_row _ _ _ _ T (0,0) (heap_alloc_new _ _),List.getElem?_toArray,List.getElem?_map,List.getElem?_eq_getElem h]
 rfl
theorem StrS.bel {g:Nat} {l:List (List UInt8)} {w w':World} (h:StrS g l w) (hb:Below w.heap.size w w'):StrS g l w':=
 ⟨Nat.lt_of_lt_of_le h.1 hb.size,fun a ha=>(World.cell?_of_block (hb.block g h.1)).trans (h.2 a ha)⟩
end
end Go.Proofs.YtnobjeelihkjmaaGreatDoor
