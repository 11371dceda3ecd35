/- CanonValues: Parens, quotes, escapes and forms of numbers turn nothing, wherever they stand, for every row of numbers of bulk at most 1048576: the card of the second form. -/
import Derived.Test.YtibpjkkgfgmkmaaGreatDoorZc42
import Derived.Test.YtibpjkkgfgmkmaaGreatDoorZc31
set_option maxHeartbeats 8000000
set_option maxRecDepth 100000
namespace Go.Proofs.YtibpjkkgfgmkmaaGreatDoor.canonValues
open Go.ChangeShapes Go.WideShapes Go.ChangeAt Go.RowKit Go.ChangeMaps
theorem laidOut:laidOutB Tryz.prog=true:=by kernel_rfl
theorem cellsInt:Tryz.prog.cellsOf 3=1:=by kernel_rfl
theorem bulk_lits {H:Type} (k:IntKind): ∀zs:List Int,zs.length≤Rows.uptoBulkAll (lits (H:=H) k zs)
 | []=>Nat.le_refl _
 |z::zs=>by
  have:=bulk_lits (H:=H) k zs
  simp only [lits,List.map_cons,Rows.uptoBulkAll,Rows.uptoBulk,List.length_cons] at this⊢
  omega
theorem contract (H:Type) (enc:TypeId × Value→H) (W:World) (base:Nat) (args:Array Value) (ds gs:List (DataW H)) (before:List MemPlace)
  (hval: ∀(j:Nat) t v,Tryz.f3.params[j]? =some t→args[j]? =some v→Value.okWide Tryz.prog W .any base t v)
  (hW:DataW.Whole enc Tryz.prog Tryz.f3.params.toList Rows.canonValuesSpec.vars false W args.toList ds gs before) (hk:Rows.uptoSmall H (ds++gs)=true) (hX:Lx W):
  Calls Tryz.prog 3 args W fun e W'=> ∃v,e= .returned v∧Rows.canonValuesSpec.post enc Tryz.prog Tryz.f3 false true false false W args v W':=by
 have hW':=hW
 obtain⟨p,q,hA0,hV,rfl,hfz,hnd⟩:=hW
 have hA:DataW.TrodAll enc Tryz.prog W 0 (fun _=>true) true Tryz.f3.params.toList args.toList ds p:=hA0
 rw [Tryz.params3] at hA hval
 obtain⟨v0,vs0,d0,ds0,p0,q0,hargs,rfl,rfl,h0,r0⟩:=trodAll_cons hA
 obtain⟨rfl,rfl,rfl⟩:=trodAll_nil r0
 obtain rfl:args= #[v0]:=by cases args;simp_all
 obtain⟨rfl,rfl⟩:=trodVars_none hV
 clear hA0
 simp only [List.append_nil] at hW'
 have h0k:=h0
 have hlt: ∀x ∈ p0,x.block<W.heap.size:=fun x hx=>hW'.lt x (by simpa using hx)
 obtain⟨fuel,hf⟩:=h0
 obtain⟨a0,len,cap,rfl⟩:=okWide_slice Tryz.underlying22 (hval 0 22 v0 rfl rfl)
 have hints:bl6 W a0 len∧len≤33554432:=by
  rcases open_ints Tryz.underlying22 Tryz.underlying3 cellsInt hf with ⟨hcs,hx⟩|⟨a,len',cap',zs,hcs,_,hl,hm,hz,hx,hcell,hwz⟩
  ·simp [Value.cells] at hcs
   obtain⟨rfl,rfl,rfl⟩:=hcs
   exact⟨fun j hj=>absurd hj (Nat.not_lt_zero _),by omega⟩
  ·simp [Value.cells] at hcs
   obtain⟨rfl,rfl,rfl⟩:=hcs
   simp only [Prod.mk.injEq] at hx
   obtain⟨rfl,rfl⟩:=hx
   simp only [if_true] at hz
   refine⟨fun j hj=> ?_,?_⟩
   ·obtain⟨b,off,spot⟩:=a
    have hspot:spot=none:=by simpa [Addr.add] using World.cell?_spot (hcell 0 (by omega))
    subst hspot
    have hcell':W.cell? ⟨b,off+j,none⟩=some (.int .i64 (zs.getD j 0)):=by rw [←add_plain];exact hcell j (by omega)
    exact⟨b,off,rfl,World.block_lt_of_cell? _ _ hcell',_,hcell'⟩
   ·have h1:=bD9 hk (d:=DataW.slice (lits .i64 (zs.take len)) (lits .i64 (zs.drop len))) (by simp)
    have h2:=bulk_lits (H:=H) .i64 (zs.take len)
    simp only [Rows.uptoBulk] at h1
    rw [List.length_take] at h2
    omega
 refine(bk9 a0 len cap W hints.1 hints.2 hX).mono fun e W' ⟨he,hb⟩=> ?_
 subst he
 refine⟨_,rfl,bC4 (ds:= [d0]) (gs:= []) (pa:=p0) (pv:= []) (by simpa using hW') (fun _ _ _=>trodAll_cons_mk (shut_bool Tryz.underlying4 _) trodAll_mk0) (fun sp hsp=> ?_) (fun _ _=>rfl) hb
  (ok_one (by kernel_rfl) rfl (okWide_bool_mk Tryz.underlying4 _))⟩
 exact trodAll_mk1 (WideElems.Trod_stays laidOut (by kernel_rfl) (of_decide_eq_true (by kernel_rfl)) h0k (fun x hx=>hb.same (hlt x hx)) (fun x hx=>hsp x (by simpa using hx)))
theorem reads (os:Os) {H:Type} (enc:TypeId × Value→H): ∃places,DataW.whole enc Tryz.prog ((al7 os).forCall (fun _ _=>0) ⟨#[],#[.slice none 0 0],[]⟩).memory Tryz.f3.params.toList Rows.canonValuesSpec.vars false #[Value.slice none 0 0].toList 8=some ([.nil],[],places):=
 ⟨[],by kernel_rfl⟩
theorem liftedUpto (os:Os) (started:os.Started) (H:Type) (enc:TypeId × Value→H) (F:Stop.Interp):
  ReturnsInHanded {} Tryz.checked os 3 .any ((Rows.OpenSpec.upto Rows.canonValuesSpec).preRow enc Tryz.prog Tryz.f3 Rows.canonValuesUptoRow.domain false Rows.canonValuesUptoRow.laid) (((Rows.OpenSpec.upto Rows.canonValuesSpec).at F).post enc Tryz.prog Tryz.f3 false true false false):=by
 obtain⟨places,hx⟩:=reads os enc
 refine returnsInHanded_of_row (C:=Tryz.checked) (s:=Rows.OpenSpec.upto Rows.canonValuesSpec) own started (by kernel_rfl) Tryz.func3
  (az3 (enc:=enc) (C:=Tryz.checked) (al7 os) #[.slice none 0 0] (bK3 os) (aW5 os _) (by kernel_rfl)
   (OpenSpec.preRow_of_cond 8 hx (by kernel_rfl) (fun k hk=>by cases hk;kernel_rfl) (by kernel_rfl) (by8 os _))) ?_
 intro W base args ds gs before hval hW _ hcond _ hL hSh _
 exact contract H enc W base args ds gs before hval hW (hcond _ rfl) (bU5 hL hSh)
theorem closed:joinedFacts Tryz.pinned.checked.prog 3 Tryz.f3 (Rows.OpenSpec.upto Rows.canonValuesSpec).bare Rows.canonValuesUptoRow=true:=by
 unfold joinedFacts
 simp only [Bool.and_eq_true]
 and_intros
 all_goals (as_aux_lemma=>kernel_rfl)
theorem saidUpto:Rows.CanonValuesUptoSaid:=
 OpenClaim.holds_of_cond 3 Tryz.f3 rfl rfl rfl rfl rfl rfl rfl ⟨rfl,rfl,rfl,rfl,rfl⟩ rfl rfl rfl rfl rfl (by kernel_rfl) Tryz.func3 closed
  (of_decide_eq_true (by kernel_rfl)) (by unfold Func.isWrapper;first|(rw [if_pos (by decide+kernel)];kernel_rfl)|(rw [if_neg (by decide+kernel)];exact⟨rfl,rfl⟩))
  (fun os started H enc _ F=>by rw [OpenClaim.pre_eq_preRow];exact liftedUpto os started H enc F)
theorem plain (f:FuncId) (fn:Func) (hf:Tryz.pinned.checked.prog.funcNamed "platen/platenlaw13.CanonValues" =some f) (hfn:Tryz.pinned.checked.prog.funcs[f]? =some fn):
  true=Tryz.pinned.checked.prog.looks []∧∀(j:Nat) t,fn.params[j]? =some t→Tryz.pinned.checked.prog.wantsStandIn t=false:=by
 obtain rfl:f=3:=Option.some.inj ((show Tryz.prog.funcNamed "platen/platenlaw13.CanonValues" =some 3 by kernel_rfl).symm.trans hf)|>.symm
 obtain rfl:fn=Tryz.f3:=(Option.some.inj (Tryz.func3.symm.trans hfn)).symm
 refine⟨by kernel_rfl,fun j t ht=> ?_⟩
 rw [Tryz.params3] at ht
 obtain rfl:t=22:=by simpa using Array.mem_of_getElem? ht
 exact(show Tryz.prog.wantsStandIn 22=false by kernel_rfl)
theorem cardUpto:Rows.CanonValuesUptoCardSaid:=
 Claim7.holds_tied_plain_at .later [] _ _ _ _ saidUpto (fun _ h=>by cases h) (by as_aux_lemma=>kernel_rfl) (fun _ h=>by cases h) canonValuesUpto_row_tie rfl ⟨rfl,rfl⟩ (by as_aux_lemma=>kernel_rfl) rfl plain (by as_aux_lemma=>kernel_rfl)
#print axioms cardUpto
end Go.Proofs.YtibpjkkgfgmkmaaGreatDoor.canonValues
