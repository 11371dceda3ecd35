/- Steps (Cd Cy Ct Cm Cc). Conditions: as stated. -/
import Derived.Test.YtnobjeelihkjmaaGreatDoorZk01
import Derived.Test.YtnobjeelihkjmaaGreatDoorZk35
import Derived.Test.YtnobjeelihkjmaaGreatDoorZk36
import Derived.Test.YtnobjeelihkjmaaGreatDoorZk07
set_option maxHeartbeats 4000000
set_option maxRecDepth 100000
namespace Go.Proofs
open Go.RowKit Go.Shelf
def Tryz.laysW_ren:Go.Shelf.Ren:= { Tryz.lays154_ren with f:=fun|167=>64|n=>Tryz.lays154_ren.f n }
theorem Tryz.laysW:Go.Proofs.Lays.n167 Tryz.prog Tryz.laysW_ren:= { Tryz.lays154 with f167:=Tryz.func64.trans (congrArg some (by kernel_rfl)),t5:=Tryz.underlying5,a5:=Tryz.isAgg5,z5:=Tryz.sizeOf5,v5:=Tryz.zeroValue5 }
theorem Tryz.Builder_Extra_W:Builder.Extra Tryz.prog Tryz.laysW_ren:= { Tryz.Builder_Extra_154 with }
theorem Tryz.Builder_WriteByte (B b:Nat) (bs:List Value) (c:Int) (w:World) (h:Lib.IsBuilder 104 5 B b bs w) (hlen:bs.length+1≤140737488355328) (hBw:B≤w.heap.size):
  Calls Tryz.prog 64 #[.pointer (some ⟨b,0,none⟩),.int .u8 c] w fun e w'=>e= .returned .nilIface∧(Lib.BuilderAt 104 5 B b (.pointer (some ⟨b,0,none⟩)) (bs++ [.int .u8 c]) w'∧Below B w w'):=
 Any.Builder_WriteByte Tryz.laysW Tryz.Builder_Extra_W B b bs c w h hlen hBw
end Go.Proofs
namespace Go.Proofs.YtnobjeelihkjmaaGreatDoor
section
open Go.RowKit
theorem LitV.len {q:UInt8} {l:List UInt8} {vs:List Nat} (h:LitV q l vs):vs.length≤l.length:=by
 induction h with
 |done=>simp
 |chr l r n vs h1 h2 h3 h4 h5 h6 h7 h8 ih=>
  have h9:l≠ []:=(LitV.chr l r n vs h1 h2 h3 h4 h5 h6 h7 h8).ne
  have h10:=List.length_pos_iff.2 h9
  rw [List.length_drop] at ih
  rw [List.length_cons]
  omega
 |x a b l vs _ _ _ ih=>simp;omega
 |u a b c d l vs _ _ _ _ _ ih=>simp;omega
theorem aL1: ∀n,n<16→∃h:n<bk4.size,bk4[n]=hexG n:=by decide
theorem aK3 (y:Nat) (hy:y<65536):bits .and .i64 (y:Int) 15=((y % 16:Nat):Int):=by
 show IntKind.i64.wrap ((BitVec.ofInt 64 (y:Int) &&& BitVec.ofInt 64 15).toNat:Int)=_
 have h1:(BitVec.ofInt 64 (y:Int)).toNat=y:=by
  rw [BitVec.ofInt_natCast,BitVec.toNat_ofNat];exact Nat.mod_eq_of_lt (by omega)
 have h2:(BitVec.ofInt 64 15).toNat=15:=rfl
 rw [BitVec.toNat_and,h1,h2,show y &&& 15=y % 16 from Nat.and_two_pow_sub_one_eq_mod y 4]
 exact IntWalk.i64_in _ (by omega)
theorem aq8 {us:List UInt8} {x m:Nat} {c:UInt8} (hc:(ai6 x)[m]? =some c):Lib.byteCells (61::(us++(ai6 x).take m))++ [.int .u8 (c.toNat:Int)]=Lib.byteCells (61::(us++(ai6 x).take (m+1))):=by
 rw [List.take_add_one,hc,←List.append_assoc]
 show _=Lib.byteCells ((61::(us++(ai6 x).take m))++ [c])
 rw [Lib.byteCells_append (61::(us++(ai6 x).take m)) [c]]
 rfl
theorem bj2 (t:ByteArray) (w:World) (hs:t.size≤1048576) (h:(am7 t).isSome=true) (hx:Lx w):
  Calls Tryz.prog 37 #[.string t] w fun e w'=>e= .returned (.string (bq2 t))∧Below w.heap.size w w':=by
 obtain⟨vs,hvs⟩:=Option.isSome_iff_exists.1 h
 obtain⟨q,l,hq,hd,hlit⟩:=aJ7 hvs
 have hln:vs.length≤1048576:=by
  have h1:=hlit.len
  have h2:t.size=(q::l).length:=by rw [←hd];exact(ofl t).symm
  rw [List.length_cons] at h2
  omega
 have HSM:=hJ hlit.small
 have hU:=aK0 t q l vs w (by omega) hq hd hlit hx.tabs
 have hsc:bq2 t=⟨(61::ak1 vs).toArray⟩:=by unfold bq2;rw [hvs]
 rw [hsc]
 have HU:=hJ hU
 clear hU hsc hlit hq hd hvs h hx
 go_enter Tryz.func37,Tryz.ntmps37
 go_upto_region 4 with (go_at_call 63;refine HU.out.mono ?_;rintro e w1 ⟨v,rfl,hu⟩)
 obtain⟨b,cap,rfl,hat⟩:=hu.at'
 have HAT:=hJ hat
 have HB:=hJ hu.bel
 clear hu hat HU
 obtain⟨n,hn⟩: ∃n,vs.length=n:=⟨_,rfl⟩
 have HN:=hJ hn
 rw [hn] at hln⊢
 clear hn
 have hb0:=Lib.fresh_isBuilder 104 5 w1
 have hl0:=(Below.refl _ w1).alloc (Nat.le_refl _) (.cells #[.pointer none,.slice none 0 0] 104)
 have HB0:=hJ hb0
 have HL0:=hJ hl0
 have hs0:=hl0.size
 clear hb0 hl0
 go_upto_region 5 with fail
 generalize World.alloc w1 _=w2 at*
 go_upto_region 6 with (go_at_call 64;refine(Tryz.Builder_WriteByte w1.heap.size w1.heap.size [] 61 _ HB0.out (by decide) hs0).mono ?_;rintro e w3 ⟨rfl,hb3,hl3⟩)
 have HR0:=hJ (show Lib.IsBuilder 104 5 w1.heap.size w1.heap.size (Lib.byteCells (61::ak1 [])) w3∧Below w1.heap.size w1 w3 from⟨.inr hb3,HL0.out.trans hl3⟩)
 clear HB0 HL0 hs0 hb3 hl3
 go_wp2_with fail
 go_loopw [7,8,20] (fun _ _ i wr=> ∃j:Nat,j≤n∧i= .int .i64 (j:Nat)∧Lib.IsBuilder 104 5 w1.heap.size w1.heap.size (Lib.byteCells (61::ak1 (vs.take j))) wr∧Below w1.heap.size w1 wr) (fun _ _ i _=>n - (intOf i).toNat)
 case atStart=>exact⟨0,Nat.zero_le _,rfl,HR0.out⟩
 case round=>
  clear HR0
  obtain⟨j,hj,rfl,hb,hl⟩:=hrel
  by_cases hjn:j<n
  ·have hj':j<vs.length:=by rw [HN.out];exact hjn
   obtain⟨g,rfl,hg,d0⟩:=HAT.out j hj'
   have hxs:=HSM.out _ (List.getElem_mem hj')
   have hvj:=List.take_succ_eq_append_getElem hj'
   obtain⟨x,hx⟩: ∃x,vs[j]=x:=⟨_,rfl⟩
   rw [hx] at d0 hxs hvj
   rw [←hl.cell hg] at d0
   have HV:=hJ (show ak1 (vs.take (j+1))=ak1 (vs.take j)++ai6 x by rw [hvj,aG6])
   have HLN:=hJ (show(ak1 (vs.take j)).length≤5*1048576 by rw [aJ8,List.length_take];omega)
   have HRB:=hJ (show Lib.IsBuilder 104 5 w1.heap.size w1.heap.size (Lib.byteCells (61::(ak1 (vs.take j)++(ai6 x).take 0))) wr∧Below w1.heap.size w1 wr from⟨by rw [List.take_zero,List.append_nil];exact hb,hl⟩)
   clear hvj hx hb hl
   generalize ak1 (vs.take j)=us at*
   go_wp2_with fail
   go_loopw [8] (fun k wi=> ∃m:Nat,m≤4∧k= .int .i64 (12 - 4*(m:Int))∧Lib.IsBuilder 104 5 w1.heap.size w1.heap.size (Lib.byteCells (61::(us++(ai6 x).take m))) wi∧Below w1.heap.size w1 wi) (fun k _=>(intOf k+4).toNat)
   case atStart=>exact⟨0,by decide,rfl,HRB.out⟩
   case round=>
    clear HRB
    obtain⟨m,hm,rfl,hb,hl⟩:=hrel
    obtain rfl|rfl|rfl|rfl|rfl:m=0∨m=1∨m=2∨m=3∨m=4:=by omega
    ·rw [show (12 - 4*((0:Nat):Int))=12 from rfl]
     have e1:bits .and .i64 ((x:Int) / 4096) 15=((x / 4096 % 16:Nat):Int):=by rw [show (x:Int) / 4096=((x / 4096:Nat):Int) by omega];exact aK3 _ (by omega)
     have HC:=hJ (show(ai6 x)[0]? =some (hexG (x / 4096 % 16)) from rfl)
     obtain⟨d,hd⟩: ∃d,x / 4096 % 16=d:=⟨_,rfl⟩
     rw [hd] at e1 HC
     have hd16:d<16:=by omega
     have hlen:(Lib.byteCells (61::(us++(ai6 x).take 0))).length+1≤140737488355328:=by
      have h1:=HLN.out
      have h2:((ai6 x).take 0).length≤5:=by rw [List.length_take];exact Nat.le_trans (Nat.min_le_right _ _) (Nat.le_refl _)
      rw [Lib.byteCells_length,List.length_cons,List.length_append]
      omega
     have HW:=hJ (fun c=>Tryz.Builder_WriteByte w1.heap.size w1.heap.size _ c wr hb hlen hl.size)
     have HL:=hJ hl
     clear hd hb hl hlen
     go_wp2_with (go_at_call 64;refine(HW.out _).mono ?_;rintro e w4 ⟨rfl,hb4,hl4⟩)
     have hb5:Lib.BuilderAt 104 5 w1.heap.size w1.heap.size (.pointer (some ⟨w1.heap.size,0,none⟩)) (Lib.byteCells (61::(us++(ai6 x).take 0))++ [.int .u8 ((hexG d).toNat:Nat)]) w4:=by
      obtain⟨h9,h8⟩:=aL1 d hd16
      rw [←h8]
      exact hb4
     rw [aq8 HC.out] at hb5
     go_roundw
     case rel=>exact⟨1,by decide,by first|rfl|go_num,.inr hb5,HL.out.trans hl4⟩
     case measure=>simp [intOf]
    ·rw [show (12 - 4*((1:Nat):Int))=8 from rfl]
     have e1:bits .and .i64 ((x:Int) / 256) 15=((x / 256 % 16:Nat):Int):=by rw [show (x:Int) / 256=((x / 256:Nat):Int) by omega];exact aK3 _ (by omega)
     have HC:=hJ (show(ai6 x)[1]? =some (hexG (x / 256 % 16)) from rfl)
     obtain⟨d,hd⟩: ∃d,x / 256 % 16=d:=⟨_,rfl⟩
     rw [hd] at e1 HC
     have hd16:d<16:=by omega
     have hlen:(Lib.byteCells (61::(us++(ai6 x).take 1))).length+1≤140737488355328:=by
      have h1:=HLN.out
      have h2:((ai6 x).take 1).length≤5:=by rw [List.length_take];exact Nat.le_trans (Nat.min_le_right _ _) (Nat.le_refl _)
      rw [Lib.byteCells_length,List.length_cons,List.length_append]
      omega
     have HW:=hJ (fun c=>Tryz.Builder_WriteByte w1.heap.size w1.heap.size _ c wr hb hlen hl.size)
     have HL:=hJ hl
     clear hd hb hl hlen
     go_wp2_with (go_at_call 64;refine(HW.out _).mono ?_;rintro e w4 ⟨rfl,hb4,hl4⟩)
     have hb5:Lib.BuilderAt 104 5 w1.heap.size w1.heap.size (.pointer (some ⟨w1.heap.size,0,none⟩)) (Lib.byteCells (61::(us++(ai6 x).take 1))++ [.int .u8 ((hexG d).toNat:Nat)]) w4:=by
      obtain⟨h9,h8⟩:=aL1 d hd16
      rw [←h8]
      exact hb4
     rw [aq8 HC.out] at hb5
     go_roundw
     case rel=>exact⟨2,by decide,by first|rfl|go_num,.inr hb5,HL.out.trans hl4⟩
     case measure=>simp [intOf]
    ·rw [show (12 - 4*((2:Nat):Int))=4 from rfl]
     have e1:bits .and .i64 ((x:Int) / 16) 15=((x / 16 % 16:Nat):Int):=by rw [show (x:Int) / 16=((x / 16:Nat):Int) by omega];exact aK3 _ (by omega)
     have HC:=hJ (show(ai6 x)[2]? =some (hexG (x / 16 % 16)) from rfl)
     obtain⟨d,hd⟩: ∃d,x / 16 % 16=d:=⟨_,rfl⟩
     rw [hd] at e1 HC
     have hd16:d<16:=by omega
     have hlen:(Lib.byteCells (61::(us++(ai6 x).take 2))).length+1≤140737488355328:=by
      have h1:=HLN.out
      have h2:((ai6 x).take 2).length≤5:=by rw [List.length_take];exact Nat.le_trans (Nat.min_le_right _ _) (Nat.le_refl _)
      rw [Lib.byteCells_length,List.length_cons,List.length_append]
      omega
     have HW:=hJ (fun c=>Tryz.Builder_WriteByte w1.heap.size w1.heap.size _ c wr hb hlen hl.size)
     have HL:=hJ hl
     clear hd hb hl hlen
     go_wp2_with (go_at_call 64;refine(HW.out _).mono ?_;rintro e w4 ⟨rfl,hb4,hl4⟩)
     have hb5:Lib.BuilderAt 104 5 w1.heap.size w1.heap.size (.pointer (some ⟨w1.heap.size,0,none⟩)) (Lib.byteCells (61::(us++(ai6 x).take 2))++ [.int .u8 ((hexG d).toNat:Nat)]) w4:=by
      obtain⟨h9,h8⟩:=aL1 d hd16
      rw [←h8]
      exact hb4
     rw [aq8 HC.out] at hb5
     go_roundw
     case rel=>exact⟨3,by decide,by first|rfl|go_num,.inr hb5,HL.out.trans hl4⟩
     case measure=>simp [intOf]
    ·rw [show (12 - 4*((3:Nat):Int))=0 from rfl]
     have e1:bits .and .i64 ((x:Int)) 15=((x % 16:Nat):Int):=aK3 _ (by omega)
     have HC:=hJ (show(ai6 x)[3]? =some (hexG (x % 16)) from rfl)
     obtain⟨d,hd⟩: ∃d,x % 16=d:=⟨_,rfl⟩
     rw [hd] at e1 HC
     have hd16:d<16:=by omega
     have hlen:(Lib.byteCells (61::(us++(ai6 x).take 3))).length+1≤140737488355328:=by
      have h1:=HLN.out
      have h2:((ai6 x).take 3).length≤5:=by rw [List.length_take];exact Nat.le_trans (Nat.min_le_right _ _) (Nat.le_refl _)
      rw [Lib.byteCells_length,List.length_cons,List.length_append]
      omega
     have HW:=hJ (fun c=>Tryz.Builder_WriteByte w1.heap.size w1.heap.size _ c wr hb hlen hl.size)
     have HL:=hJ hl
     clear hd hb hl hlen
     go_wp2_with (go_at_call 64;refine(HW.out _).mono ?_;rintro e w4 ⟨rfl,hb4,hl4⟩)
     have hb5:Lib.BuilderAt 104 5 w1.heap.size w1.heap.size (.pointer (some ⟨w1.heap.size,0,none⟩)) (Lib.byteCells (61::(us++(ai6 x).take 3))++ [.int .u8 ((hexG d).toNat:Nat)]) w4:=by
      obtain⟨h9,h8⟩:=aL1 d hd16
      rw [←h8]
      exact hb4
     rw [aq8 HC.out] at hb5
     go_roundw
     case rel=>exact⟨4,by decide,by first|rfl|go_num,.inr hb5,HL.out.trans hl4⟩
     case measure=>simp [intOf]
    ·rw [show (12 - 4*((4:Nat):Int))= -4 from rfl]
     have hlen:(Lib.byteCells (61::(us++(ai6 x).take 4))).length+1≤140737488355328:=by
      have h1:=HLN.out
      have h2:((ai6 x).take 4).length≤5:=by rw [List.length_take];exact Nat.le_trans (Nat.min_le_right _ _) (Nat.le_refl _)
      rw [Lib.byteCells_length,List.length_cons,List.length_append]
      omega
     have HW:=hJ (Tryz.Builder_WriteByte w1.heap.size w1.heap.size _ 44 wr hb hlen hl.size)
     have HL:=hJ hl
     clear hb hl hlen
     go_wp2_with (go_at_call 64;refine HW.out.mono ?_;rintro e w4 ⟨rfl,hb4,hl4⟩)
     have hb5:=hb4
     rw [show (Value.int .u8 44)= .int .u8 ((44:UInt8).toNat:Int) from rfl,aq8 (show(ai6 x)[4]? =some 44 from rfl)] at hb5
     go_roundw
     case rel=>exact⟨j+1,by omega,by go_num,.inr (by rw [HV.out];exact hb5),HL.out.trans hl4⟩
     case measure=>simp [intOf];omega
  ·have hjn2:j=n:=by omega
   subst hjn2
   rw [show vs.take j=vs by rw [List.take_of_length_le (by rw [HN.out];exact Nat.le_refl _)]] at hb
   have HS:=hJ (Tryz.Builder_String_any w1.heap.size w1.heap.size _ wr hb hl.size)
   have HL:=hJ hl
   clear hb hl
   go_wp2_with (go_at_call 65;refine HS.out.mono ?_;rintro e w4 ⟨rfl,hl4⟩)
   go_ret
   exact⟨rfl,(HB.out.trans (HL.out.mono HB.out.size)).trans (hl4.mono HB.out.size)⟩
end
section
open Go.RowKit
theorem bD0:(Tryz.prog.info? 21).map (fun i=>(i.zero,i.size,i.bytes))=some (some (.int .i32 0),1,4):=by kernel_rfl
theorem Md.leaf {w w1:World} {F:Nat→Prop} {g o:Nat} {n:Nd} (h:Md w F g o w1 n) (k:Int) (t:ByteArray):
  Md w F g o (((((w1.setCell ⟨g,o,none⟩ (.int .i64 k)).setCell ⟨g,o+1,none⟩ (.string t)).setCell ⟨g,o+2,none⟩ (.slice none 0 0)).setCell ⟨g,o+3,none⟩ (.int .i64 0)).setCell ⟨g,o+4,none⟩ (.int .i64 0)) (.mk k t [] 0 0):=by
 obtain⟨F',h1,h2,h3⟩:=h
 have kp: ∀(W:World) (i:Nat) (v:Value),i<5→Kp w W F g o→Kp w (W.setCell ⟨g,o+i,none⟩ v) F g o:=fun W i v hi hk=>hk.trans (Kp.setCell (F:=fun _=>False) hi) (fun x hx=>hx.elim)
 obtain⟨_,_,d0,d1,d2,d3,d4,f0,f1,f2,f3,f4,_,_⟩:=h2.facts
 have hne: ∀i j,i≠j→(⟨g,o+i,none⟩:Addr)≠⟨g,o+j,none⟩:=fun i j hij e=>by injection e with _ e;omega
 refine⟨F',kp _ 4 _ (by decide) (kp _ 3 _ (by decide) (kp _ 2 _ (by decide) (kp _ 1 _ (by decide) (kp _ 0 _ (by decide) h1)))),?_,fun x hx=>⟨(h3 x hx).1,by simp only [World.size_setCell];exact(h3 x hx).2⟩⟩
 rw [ap7]
 refine⟨fun i hi=> ?_,none,0,fun i hi=> ?_,Nat.le_refl _,.inl rfl⟩
 ·simp only [World.frozen?_setCell]
  match i,hi with
  |0,_=>exact f0
  |1,_=>exact f1
  |2,_=>exact f2
  |3,_=>exact f3
  |4,_=>exact f4
 ·have so: ∀(W:World) (i j:Nat) (v:Value),i≠j→(W.setCell ⟨g,o+j,none⟩ v).cell? ⟨g,o+i,none⟩=W.cell? ⟨g,o+i,none⟩:=fun W i j v hij=>World.cell?_setCell_other _ _ _ _ (hne j i (fun e=>hij e.symm))
  have s0: ∀(W:World) (i:Nat) (v:Value),i≠0→(W.setCell ⟨g,o,none⟩ v).cell? ⟨g,o+i,none⟩=W.cell? ⟨g,o+i,none⟩:=fun W i v hi=>so W i 0 v hi
  have sz: ∀(W:World) (j:Nat) (v:Value),j≠0→(W.setCell ⟨g,o+j,none⟩ v).cell? ⟨g,o,none⟩=W.cell? ⟨g,o,none⟩:=fun W j v hj=>so W 0 j v (fun e=>hj e.symm)
  match i,hi with
  |0,_=>
   show World.cell? _ ⟨g,o,none⟩=_
   rw [sz _ 4 _ (by decide),sz _ 3 _ (by decide),sz _ 2 _ (by decide),sz _ 1 _ (by decide),World.cell?_setCell_same _ _ _ d0]
   rfl
  |1,_=>
   rw [so _ 1 4 _ (by decide),so _ 1 3 _ (by decide),so _ 1 2 _ (by decide),World.cell?_setCell_same _ _ _ ((s0 _ 1 _ (by decide)).trans d1)]
   rfl
  |2,_=>
   rw [so _ 2 4 _ (by decide),so _ 2 3 _ (by decide),World.cell?_setCell_same _ _ _ (((so _ 2 1 _ (by decide)).trans (s0 _ 2 _ (by decide))).trans d2)]
   rfl
  |3,_=>
   rw [so _ 3 4 _ (by decide),World.cell?_setCell_same _ _ _ ((((so _ 3 2 _ (by decide)).trans (so _ 3 1 _ (by decide))).trans (s0 _ 3 _ (by decide))).trans d3)]
   rfl
  |4,_=>
   rw [World.cell?_setCell_same _ _ _ (((((so _ 4 3 _ (by decide)).trans (so _ 4 2 _ (by decide))).trans (so _ 4 1 _ (by decide))).trans (s0 _ 4 _ (by decide))).trans d4)]
   rfl
end
section
open Go.RowKit
theorem bm2 (w:World) (g o:Nat) (n:Nd) (b:Option Addr) (cap:Nat) (hc: ∀i,i<5→w.cell? ⟨g,o+i,none⟩=(aa7 n.kind n.text b n.kids.length cap n.from' n.till)[i]?):
  Calls Tryz.prog 40 #[.pointer (some ⟨g,o,none⟩)] w fun e w'=>e= .returned (.bool (aG8 n))∧w'=w:=by
 have d0:w.cell? ⟨g,o,none⟩=some (.int .i64 n.kind):=hc 0 (by decide)
 clear hc
 unfold aG8
 generalize n.kind=k at*
 go_enter Tryz.func40,Tryz.ntmps40
 go_wp2
 go_ret
 refine⟨?_,rfl⟩
 by_cases h:k=59<;>simp [h]
def bp4 (n:Nd):Bool:=(n.kind !=54)|| !n.text.toList.isEmpty
theorem bm3 (w:World) (g o:Nat) (n:Nd) (b:Option Addr) (cap:Nat) (hc: ∀i,i<5→w.cell? ⟨g,o+i,none⟩=(aa7 n.kind n.text b n.kids.length cap n.from' n.till)[i]?):
  Calls Tryz.prog 42 #[.pointer (some ⟨g,o,none⟩)] w fun e w'=>e= .returned (.bool (bp4 n))∧w'=w:=by
 have d0:w.cell? ⟨g,o,none⟩=some (.int .i64 n.kind):=hc 0 (by decide)
 have d1:w.cell? ⟨g,o+1,none⟩=some (.string n.text):=hc 1 (by decide)
 clear hc
 unfold bp4
 generalize n.kind=k at*
 generalize n.text=t at*
 go_enter Tryz.func42,Tryz.ntmps42
 go_wp2
 all_goals
  go_ret
  refine⟨?_,rfl⟩
  simp_all
theorem aZ9 {c:UInt8} {r:List UInt8} : ∀l:List UInt8,c ∉ l→Lib.index l (c::r)= -1
 | [],_=>rfl
 |b::l,h=>by
  have h1:(c==b)=false:=beq_eq_false_iff_ne.2 (fun e=>h (e▸ .head _))
  have h2:=aZ9 (r:=r) l (fun e=>h (.tail _ e))
  rw [Lib.index,if_neg (by rw [List.isPrefixOf,h1];simp),if_pos (by rw [h2];rfl)]
theorem bm7 (n:Nd):Nd.mk n.kind n.text n.kids n.from' n.till=n:=by cases n;rfl
theorem bF6 (t old new:ByteArray) (c:UInt8) (r:List UInt8) (w:World) (ho:old.data.toList=c::r) (ht:c ∉ t.data.toList) (hs:t.size≤1048576) (hM:aq1 w):
  Calls Tryz.prog 36 #[.string t,.string old,.string new] w fun e w'=>e= .returned (.string t)∧Below w.heap.size w w':=by
 obtain⟨m,hm⟩:=hM
 have hi:Lib.index t.data.toList old.data.toList= -1:=by rw [ho];exact aZ9 _ ht
 have hc:Lib.countB t old=0:=Lib.countB_miss t old hi
 have h1:1≤old.size:=by rw [←ofl old,ho];simp
 refine(Tryz.strings_ReplaceAll t old new m w (by omega) hm h1 (by rw [hc];omega)).mono ?_
 rintro e w' ⟨rfl,hb⟩
 refine⟨?_,hb⟩
 have hk: ∀k,Lib.replaceK old.data.toList new.data.toList k t.data.toList=t.data.toList:=by
  intro k
  cases k with
  |zero=>rfl
  |succ k=>rw [Lib.replaceK,if_pos (by rw [hi];rfl)]
 unfold Lib.replaceAll Lib.replace
 split
 ·rfl
 ·rw [hk]
end
section
open Go.RowKit
theorem SpC.box {w:World} {m:Nd} {b:Option Addr} {cap r:Nat} {F:Nat→Prop} {T:TypeId} (h:w.heap[r]? =some (.cells #[.int .i64 m.kind,.string m.text,.slice b m.kids.length cap,.int .i64 m.from',.int .i64 m.till] T (0,0))) (hc:m.kids.length≤cap) (hx:SpX w m.kids b F):SpC w m r 0 F:=by
 rw [ap7]
 refine⟨fun i _=>frozen_of_row w r _ _ _ h,b,cap,fun i hi=> ?_,hc,hx⟩
 rw [cell_of_row _ _ _ _ _ _ h,Nat.zero_add]
 rfl
end
end Go.Proofs.YtnobjeelihkjmaaGreatDoor
