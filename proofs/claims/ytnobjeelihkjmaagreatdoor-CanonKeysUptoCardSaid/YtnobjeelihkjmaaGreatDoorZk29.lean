/- Steps (Vb0 Wf0 Dp). Conditions: as stated. -/
import Derived.Test.YtnobjeelihkjmaaGreatDoorZk28
namespace Go.Proofs.YtnobjeelihkjmaaGreatDoor
section
open Go.RowKit
attribute [local go_sem] ab3 ab4 ab5 ab6 ab7 ab8
attribute [local go_sem ↓] Go.wp_at_zero Go.wp_at_succ
end
section
open Go.RowKit
section
variable {E:PE} {F0 F X:Nat→Prop} {w0 w w1 W:World} {q q1:Ps} {bs bs':List Box} {ns:List Kd} {ro:Ro}
theorem Sa.bne (h:Sa E F0 X w0 w q bs ns ro) (i j:Nat) {a b:Box} (ha:nth bs i=some a) (hb:nth bs j=some b) (hij:i≠j):a.1≠b.1:=h.elim fun _ h=>aP5 ag4 h.nd ha hb hij
theorem Sa.nest (h:Sa E F0 X w0 w q bs ns ro) (hE:E.Ok) (n:Int) (h0:0≤n) (h1:n≤4000):Hid (Sa E F0 X w0 (w.setCell ⟨E.b,12,none⟩ (.int .i64 n)) { q with nest:=n } bs ns ro):=h.elim fun F h=>by
 obtain⟨h1,h2⟩:=h.s.set (X:=X0) hE.hb 12 (.int .i64 n) { q with nest:=n } (fun _ _ _=>rfl) rfl rfl rfl ⟨h0,h1⟩
 exact⟨_,h.call h1 h2⟩
theorem Sa.nst (h:Sa E F0 X w0 w q bs ns ro):0≤q.nest∧q.nest≤4000:=h.elim fun _ h=>h.s.nst
end
end
section
open Go.RowKit
theorem aH9: ∀(l:List Bool) (i:Nat),l[i]? =some false→(l.set i true).count false+1=l.count false
 | [],_,h=>by cases h
 |b::l,0,h=>by
  obtain rfl:b=false:=by simpa using h
  simp
 |b::l,i+1,h=>by
  have:=aH9 l i (by simpa using h)
  rw [List.set_cons_succ,List.count_cons,List.count_cons]
  omega
theorem aY8: ∀(l:List Bool),l.count false=0→l=List.replicate l.length true
 | [],_=>rfl
 |b::l,h=>by
  rw [List.count_cons] at h
  cases b with
  |false=>simp at h
  |true=>rw [List.length_cons,List.replicate_succ,←aY8 l (by simpa using h)]
theorem bo8 {ops:Array Oper} (hd:((List.range ops.size).all fun i=>((ops[i]?).map (·.after.all fun e=> !Region.binds .any e||decide (e.on<i))).getD false)=true) {listed:Array Bool} (hs:listed.size=ops.size) (h:Region.ready .any ops listed= []): ∀i,i<ops.size→listed.getD i true=true:=by
 intro i
 induction i using Nat.strongRecOn with
 |ind i ih=>
  intro hi
  rcases hb:listed.getD i true with _|_
  ·exfalso
   have hm:i ∈ Region.ready .any ops listed:=mem_ready.2 ⟨hb,ops[i],by simp [hi],fun e he hb'=>by
    have h1:=List.all_eq_true.1 hd i (List.mem_range.2 hi)
    rw [Array.getElem?_eq_getElem hi,Option.map_some,Option.getD_some] at h1
    have h2:e.on<i:=by simpa [hb'] using (Array.all_eq_true_iff_forall_mem.1 h1) e he
    have h3:=ih e.on h2 (by omega)
    rw [Array.getD_eq_getD_getElem?,Array.getElem?_eq_getElem (by omega)] at h3⊢
    exact h3⟩
   rw [h] at hm
   cases hm
  ·rfl
theorem aT1 {listed:Array Bool} {n:Nat} (hs:listed.size=n) (h: ∀i,i<n→listed.getD i true=true):listed=Array.replicate n true:=by
 refine Array.ext (by rw [hs,Array.size_replicate]) fun i h1 h2=> ?_
 have:=h i (by omega)
 rw [Array.getD_eq_getD_getElem?,Array.getElem?_eq_getElem h1] at this
 rw [Array.getElem_replicate]
 exact this
section
variable {P:Program} {ops:Array Oper} {Q:Exit→Act→World→Prop} {I:Array Bool→Act→World→Prop}
theorem bc2 (hd:((List.range ops.size).all fun i=>((ops[i]?).map (·.after.all fun e=> !Region.binds .any e||decide (e.on<i))).getD false)=true) (hfin: ∀a w,I (Array.replicate ops.size true) a w→Q .normal a w)
  (hstep: ∀listed a w i,I listed a w→i ∈ Region.ready .any ops listed→wpOp P ops Q i (I (listed.setIfInBounds i true)) a w): ∀(fuel:Nat) (listed:Array Bool) (a:Act) (w:World),listed.size=ops.size→listed.toList.count false=fuel→I listed a w→wpAny P .any ops Q fuel listed a w
 |0,listed,a,w,hs,hc,hI=>by
  have h1:=aY8 _ hc
  have h2:listed=Array.replicate ops.size true:=by
   rw [←hs]
   refine Array.ext' ?_
   rw [Array.toList_replicate]
   simpa using h1
  subst h2
  refine⟨?_,hfin _ _ hI⟩
  refine List.eq_nil_iff_forall_not_mem.2 fun i hi=> ?_
  have h3:=(mem_ready.1 hi).1
  rw [Array.getD_eq_getD_getElem?,Array.getElem?_replicate] at h3
  split at h3<;>simp at h3
 |fuel+1,listed,a,w,hs,hc,hI=>by
  refine⟨fun hr=>hfin _ _ (aT1 hs (bo8 hd hs hr)▸hI),fun i hi=>wpOp_mono (fun a' w' h=>bc2 hd hfin hstep fuel _ a' w' (by rw [Array.size_setIfInBounds];exact hs) ?_ h) (hstep _ _ _ _ hI hi)⟩
  have h1:=(mem_ready.1 hi).1
  have h2:listed.toList[i]? =some false:=by
   rw [Array.getD_eq_getD_getElem?] at h1
   rw [Array.getElem?_toList]
   cases hg:listed[i]? with
   |none=>rw [hg] at h1;cases h1
   |some b=>rw [hg] at h1;exact congrArg some h1
  have h3:=aH9 _ _ h2
  rw [Array.toList_setIfInBounds]
  omega
theorem aR5 {id:Nat} {a:Act} {w:World} (hm:P.follows .mixedOrders=true) (hd:((List.range ops.size).all fun i=>((ops[i]?).map (·.after.all fun e=> !Region.binds .any e||decide (e.on<i))).getD false)=true) (I:Array Bool→Act→World→Prop) (h0:I (Array.replicate ops.size false) a w.drew) (hfin: ∀a w,I (Array.replicate ops.size true) a w→Q .normal a w)
  (hstep: ∀listed a w i,I listed a w→i ∈ Region.ready .any ops listed→wpOp P ops Q i (I (listed.setIfInBounds i true)) a w):(Code.region id ops true).wp P Q a w:=
 wp_region_any hm (bc2 hd hfin hstep _ _ _ _ (by rw [Array.size_replicate]) (by rw [Array.toList_replicate,List.count_replicate];simp) h0)
theorem ai8 {id:Nat} {a:Act} {w:World} (hm:P.follows .mixedOrders=true) (hd:((List.range ops.size).all fun i=>((ops[i]?).map (·.after.all fun e=> !Region.binds .any e||decide (e.on<i))).getD false)=true) (I:Array Bool→Act→World→Prop) (h0:I (Array.replicate ops.size false) a w.drew) (hfin: ∀a a' w,I (Array.replicate ops.size true) a w→a=a'→Q .normal a' w)
  (hstep: ∀listed a a' w i,I listed a w→a=a'→i ∈ Region.ready .any ops listed→wpOp P ops Q i (I (listed.setIfInBounds i true)) a' w):(Code.region id ops true).wp P Q a w:=
 aR5 hm hd I h0 (fun a w h=>hfin a a w h rfl) fun l a w i h=>hstep l a a w i h rfl
end
end
end Go.Proofs.YtnobjeelihkjmaaGreatDoor
