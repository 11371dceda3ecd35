/- Steps (Fr Bulk). Conditions: as stated. -/
import Derived.Test.YtnobjeelihkjmaaGreatDoorCards
import Derived.Test.YtnobjeelihkjmaaGreatDoorTie
import Derived.WalkKit
import Derived.ProofKit
import Derived.OpenShut
import Derived.Deep.DeepHandedRow
import Derived.Lib.LaidTab
import Derived.Lay
import Derived.Shelf.Vars
import Derived.Test.YtnobjeelihkjmaaGreatDoorZk07
import Derived.Lib.LaidU8
namespace Go.Proofs.YtnobjeelihkjmaaGreatDoor
section
open Go.ChangeShapes Go.WideShapes Go.ChangeAt Go.RowKit
section
variable {H:Type} {enc:TypeId × Value→H} {P:Program}
theorem bx5 {f:Func} {s:ChangeSpec} {W W':World} {args:Array Value} {v:Value} {ds gs:List (DataW H)} {pa pv:List MemPlace}
  (hW:DataW.Whole enc P f.params.toList s.vars false W args.toList ds gs (pa++pv))
  (hres: ∀(b:Nat) (sp:Nat→Bool) (hd:Bool),DataW.TrodAll enc P W' b sp hd f.resultTypes.toList (v.resultList f.resultTypes.size) (s.fn H (ds++gs)).results [])
  (hargs: ∀sp:Nat→Bool,(∀p ∈ pa++pv,sp p.block=true)→DataW.TrodAll enc P W' 0 sp true f.params.toList args.toList (s.fn H (ds++gs)).args pa)
  (hvars: ∀sp:Nat→Bool,(∀p ∈ pa++pv,sp p.block=true)→DataW.TrodVars enc P W' sp s.vars (s.fn H (ds++gs)).vars pv)
  (hb:Below W.heap.size W W')
  (hok: ∀(j:Nat) (t:TypeId) (r:Value),f.resultTypes[j]? =some t→(v.resultList f.resultTypes.size)[j]? =some r→Value.okWide P W' .any 0 t r):
  s.post enc P f false true false false W args v W':=by
 have hlt: ∀p ∈ pa++pv,p.block<W.heap.size:=fun p hp=>hW.lt p hp
 have hold: ∀p ∈ pa++pv,(fun b=>decide (b<W.heap.size)) p.block=true:=fun p hp=>by simpa using hlt p hp
 obtain⟨_,_,_,_,_,hz,hn⟩:=id hW
 refine⟨ds,gs,pa++pv,[],pa,pv,hW,hres _ _ _,hargs _ hold,hvars _ hold,World.keptBut_mono (fun p hp=>⟨hp,List.mem_append.1 hp|>Or.inr⟩) (hb.frame (· ∈ pa++pv)),fun _=>⟨hok,_,_,([]++pa)++pv,⟨[]++pa,pv,trodAll_append (hargs _ (fun _ _=>rfl)) (hres _ _ _),hvars _ (fun _ _=>rfl),rfl,?_,?_⟩,?_⟩⟩
 ·intro b off hp
  have hin:MemPlace.cell b off ∈ pa++pv:=by simpa using hp
  rw [hb.frozen (hlt _ hin)]
  exact hz b off hin
 ·intro ha
  have:=hn ha
  simpa using this
 ·intro p hp _
  simpa using hp
end
theorem own:ownKnob Tryz.prog.godebug=none:=by kernel_rfl
theorem ay0 {H:Type} {enc:TypeId × Value→H} {C:Checked} {os:Os} {f:FuncId} {fn:Func} {s:OpenSpec} {conds:List PathCond} {apart:Bool} {laid:List (String × DataW Unit)} (w0:World) (args:Array Value) (hos:w0.os=os)
  (hsh:(w0.forCall (fun _ _=>0) ⟨#[],args,[]⟩).Shaped C.prog)
  (hok:Input.okWideB C.prog (w0.forCall (fun _ _=>0) ⟨#[],args,[]⟩) f ⟨#[],args,[]⟩=true)
  (hrow:s.preRow enc C.prog fn conds apart laid (w0.forCall (fun _ _=>0) ⟨#[],args,[]⟩).memory args):
  ∃(w:World) (tape:Tape) (i:Input),w.os=os∧(w.forCall tape i).Shaped C.prog∧i.vars= []∧Input.okWide C.prog (w.forCall tape i) .any w.heap.size f i∧
   s.preRow enc C.prog fn conds apart laid (w.forCall tape i).memory i.args∧({} :Assume).holds C.prog (lone (Frame.enter C.prog f i.args .normal) [] (w.forCall tape i)):=
 ⟨w0,fun _ _=>0,⟨#[],args,[]⟩,hos,hsh,(Input.okWide_of_okWideB (base:=0) hok).1,(Input.okWide_of_okWideB hok).2,hrow,by
  simp only [Assume.holds]
  exact⟨by simp,by simp,fun h=>by simp at h,by simp,by simp⟩⟩
def af6:List (String × DataW Unit):=Rows.canonTextsUptoRow.laid.filter fun x=>x.2.handleName?.isNone
noncomputable def aO1 (os:Os):World:=
 let w0:=World.holding Tryz.prog os ⟨#[],#[],[]⟩
 { w0 with heap:=w0.heap.modify 6 fun
   | .cells _ t frozen=> .cells #[.iface 273 (.agg #[typeHandle Tryz.prog 106])] t frozen
   |o=>o }
noncomputable def ak0 (os:Os):World:=(aO1 os).layVars Tryz.prog af6
theorem bD3 (os:Os):(ak0 os).os=os:=(World.layVars_os _ _ _).trans rfl
theorem bl7 (os:Os) (args:Array Value):laidMet Tryz.prog af6 ((ak0 os).forCall (fun _ _=>0) ⟨#[],args,[]⟩).memory:=by
 have e1:(af6.filter fun x=>(af6.map (·.1)).contains x.1)=af6:=List.filter_eq_self.2 fun x hx=>List.contains_iff_mem.2 (List.mem_map.2 ⟨x,hx,rfl⟩)
 have e2:(af6.filter fun x=> !(af6.map (·.1)).contains x.1)= []:=List.filter_eq_nil_iff.2 fun x hx=>by rw [List.contains_iff_mem.2 (List.mem_map.2 ⟨x,hx,rfl⟩)];simp
 have h:laidMet Tryz.prog af6 (ak0 os):=laidMet_layVars (w0:=aO1 os) (af6.map (·.1)) [] (by rw [e1];rfl) (by rw [e1];kernel_rfl) (by rw [e1];kernel_rfl) (by rw [e2];exact LaidIn.none)
 exact h.of_heap (by simp [World.memory,World.forCall,Input.heap])
theorem bt7 (os:Os) (args:Array Value):laidMetH Tryz.prog Rows.canonTextsUptoRow.laid ((ak0 os).forCall (fun _ _=>0) ⟨#[],args,[]⟩).memory:=
 laidMetH_of_parts (bl7 os args) (by kernel_rfl)
theorem bl6 {W:World} (h:laidMetH Tryz.prog Rows.canonTextsUptoRow.laid W):laidMet Tryz.prog af6 W:=by
 have h':laidMet Tryz.prog af6 W∧handlesMet Tryz.prog (Rows.canonTextsUptoRow.laid.filter fun x=>x.2.handleName?.isSome) W:=h
 exact h'.1
theorem aO5 (os:Os):((ak0 os).forCall (fun _ _=>0) ⟨#[],#[],[]⟩).Shaped Tryz.checked.prog:=
 World.shaped_of_ZipB (by kernel_rfl) (by kernel_rfl)
theorem bv7 {W:World} (h:W.ShapedOpen Tryz.prog):aq1 W:=
 cell_of_shapedOpen_int (P:=Tryz.prog) (g:=2) (t:=3) (zero:= #[.int .i64 0]) h (of_decide_eq_true (by kernel_rfl)) (by kernel_rfl) rfl (by kernel_rfl) (by kernel_rfl) Tryz.underlying3
theorem aS9 (os:Os) (args:Array Value):((ak0 os).forCall (fun _ _=>0) ⟨#[],args,[]⟩).Shaped Tryz.checked.prog:=
 (aO5 os)
theorem bL8:Go.Proofs.U8Extra Tryz.prog Tryz.lays260_ren:= {
 n3:=by kernel_rfl
 n4:=by kernel_rfl
 y3:=by kernel_rfl
 y4:=by kernel_rfl
 c5:=by kernel_rfl
 c119:=by kernel_rfl
 c138:=by kernel_rfl }
theorem bM0 {W:World} (hL0:laidMetH Tryz.prog Rows.canonTextsUptoRow.laid W) (hSh:W.ShapedOpen Tryz.prog):Lx W:=by
 have hL:=bl6 hL0
 have e3:Rows.laid_unicode_utf8_first=Lib.firstData:=by kernel_rfl
 have e4:(Rows.laid_unicode_utf8_acceptRanges:DataW Unit)=Lib.acceptData:=by kernel_rfl
 have h3:("unicode/utf8.first",Lib.firstData) ∈ af6:=by rw [←e3];first|exact .tail _ (.tail _ (.tail _ (.head _)))|exact .tail _ (.tail _ (.tail _ (.tail _ (.head _))))
 have h4:("unicode/utf8.acceptRanges",Lib.acceptData) ∈ af6:=by rw [←e4];exact .head _
 have h5:laidMet Tryz.prog [("strings.asciiSpace",Lib.tabData .u8 Lib.asciiSpaceTab)] W:=by
  have e:af6.filter (fun x=>x.1== "strings.asciiSpace")= [("strings.asciiSpace",Lib.tabData .u8 Lib.asciiSpaceTab)]:=by kernel_rfl
  rw [←e]
  exact hL.filter _
 exact⟨utf8Tabs_of_reads Tryz.lays260 bL8 (Lib.laidMet.reads hL h3) (Lib.laidMet.reads hL h4),bv7 hSh,Lib.tabIs_of_head (g:=0) (by kernel_rfl) (by kernel_rfl) Tryz.underlying175 Tryz.underlying5 (by kernel_rfl) (by kernel_rfl) h5⟩
end
section

end
end Go.Proofs.YtnobjeelihkjmaaGreatDoor
