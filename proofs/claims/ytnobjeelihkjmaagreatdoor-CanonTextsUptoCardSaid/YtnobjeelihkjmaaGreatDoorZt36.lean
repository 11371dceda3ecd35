/- Steps (Cd Cy Ct Cm Cc). Conditions: as stated. -/
import Derived.Test.YtnobjeelihkjmaaGreatDoorZt01
import Derived.Test.YtnobjeelihkjmaaGreatDoorZt34
import Derived.Test.YtnobjeelihkjmaaGreatDoorZt35
import Derived.Test.YtnobjeelihkjmaaGreatDoorZt07
set_option maxHeartbeats 4000000
set_option maxRecDepth 100000
namespace Go.Proofs
open Go.RowKit Go.Shelf
def Tryz.laysW_ren:Go.Shelf.Ren:= { Tryz.lays154_ren with f:=fun|167=>64|n=>Tryz.lays154_ren.f n }
theorem Tryz.laysW:Go.Proofs.Lays.n167 Tryz.prog Tryz.laysW_ren:= { Tryz.lays154 with f167:=Tryz.func64.trans (congrArg some (by kernel_rfl)),t5:=Tryz.underlying5,a5:=Tryz.isAgg5,z5:=Tryz.sizeOf5,v5:=Tryz.zeroValue5 }
theorem Tryz.Builder_Extra_W:Builder.Extra Tryz.prog Tryz.laysW_ren:= { Tryz.Builder_Extra_154 with }
theorem Tryz.Builder_WriteByte (B b:Nat) (bs:List Value) (c:Int) (w:World) (h:Lib.IsBuilder 104 5 B b bs w) (hlen:bs.length+1≤140737488355328) (hBw:B≤w.heap.size):
  Calls Tryz.prog 64 #[.pointer (some ⟨b,0,none⟩),.int .u8 c] w fun e w'=>e= .returned .nilIface∧(Lib.BuilderAt 104 5 B b (.pointer (some ⟨b,0,none⟩)) (bs++ [.int .u8 c]) w'∧Below B w w'):=
 Any.Builder_WriteByte Tryz.laysW Tryz.Builder_Extra_W B b bs c w h hlen hBw
end Go.Proofs
namespace Go.Proofs.YtnobjeelihkjmaaGreatDoor
section
open Go.RowKit
theorem LitV.len {q:UInt8} {l:List UInt8} {vs:List Nat} (h:LitV q l vs):vs.length≤l.length:=by
 induction h with
 |done=>simp
 |plain c l vs _ _ _ _ _ ih=>simp;omega
 |x a b l vs _ _ _ ih=>simp;omega
 |u a b c d l vs _ _ _ _ _ ih=>simp;omega
theorem aP5: ∀n,n<16→∃h:n<bt2.size,bt2[n]=hexG n:=by decide
theorem aO3 (y:Nat) (hy:y<65536):bits .and .i64 (y:Int) 15=((y % 16:Nat):Int):=by
 show IntKind.i64.wrap ((BitVec.ofInt 64 (y:Int) &&& BitVec.ofInt 64 15).toNat:Int)=_
 have h1:(BitVec.ofInt 64 (y:Int)).toNat=y:=by
  rw [BitVec.ofInt_natCast,BitVec.toNat_ofNat];exact Nat.mod_eq_of_lt (by omega)
 have h2:(BitVec.ofInt 64 15).toNat=15:=rfl
 rw [BitVec.toNat_and,h1,h2,show y &&& 15=y % 16 from Nat.and_two_pow_sub_one_eq_mod y 4]
 exact IntWalk.i64_in _ (by omega)
theorem as8 {us:List UInt8} {x m:Nat} {c:UInt8} (hc:(ah0 x)[m]? =some c):Lib.byteCells (61::(us++(ah0 x).take m))++ [.int .u8 (c.toNat:Int)]=Lib.byteCells (61::(us++(ah0 x).take (m+1))):=by
 rw [List.take_add_one,hc,←List.append_assoc]
 show _=Lib.byteCells ((61::(us++(ah0 x).take m))++ [c])
 rw [Lib.byteCells_append (61::(us++(ah0 x).take m)) [c]]
 rfl
theorem br4 (t:ByteArray) (w:World) (hs:t.size≤1048576) (h:(au0 t).isSome=true) (hx:Lx w):
  Calls Tryz.prog 37 #[.string t] w fun e w'=>e= .returned (.string (aQ9 t))∧Below w.heap.size w w':=by
 obtain⟨vs,hvs⟩:=Option.isSome_iff_exists.1 h
 obtain⟨q,l,hq,hd,hlit⟩:=bo7 hvs
 have hln:vs.length≤1048576:=by
  have h1:=hlit.len
  have h2:t.size=(q::l).length:=by rw [←hd];exact(ofl t).symm
  rw [List.length_cons] at h2
  omega
 have HSM:=hJ hlit.small
 have hU:=aO1 t q l vs w (by omega) hq hd hlit hx.tabs
 have hsc:aQ9 t=⟨(61::ai8 vs).toArray⟩:=by unfold aQ9;rw [hvs]
 rw [hsc]
 have HU:=hJ hU
 clear hU hsc hlit hq hd hvs h hx
 go_enter Tryz.func37,Tryz.ntmps37
 go_upto_region 4 with (go_at_call 63;refine HU.out.mono ?_;rintro e w1 ⟨v,rfl,hu⟩)
 obtain⟨b,cap,rfl,hat⟩:=hu.at'
 have HAT:=hJ hat
 have HB:=hJ hu.bel
 clear hu hat HU
 obtain⟨n,hn⟩: ∃n,vs.length=n:=⟨_,rfl⟩
 have HN:=hJ hn
 rw [hn] at hln⊢
 clear hn
 have hb0:=Lib.fresh_isBuilder 104 5 w1
 have hl0:=(Below.refl _ w1).alloc (Nat.le_refl _) (.cells #[.pointer none,.slice none 0 0] 104)
 have HB0:=hJ hb0
 have HL0:=hJ hl0
 have hs0:=hl0.size
 clear hb0 hl0
 go_upto_region 5 with fail
 generalize World.alloc w1 _=w2 at*
 go_upto_region 6 with (go_at_call 64;refine(Tryz.Builder_WriteByte w1.heap.size w1.heap.size [] 61 _ HB0.out (by decide) hs0).mono ?_;rintro e w3 ⟨rfl,hb3,hl3⟩)
 have HR0:=hJ (show Lib.IsBuilder 104 5 w1.heap.size w1.heap.size (Lib.byteCells (61::ai8 [])) w3∧Below w1.heap.size w1 w3 from⟨.inr hb3,HL0.out.trans hl3⟩)
 clear HB0 HL0 hs0 hb3 hl3
 go_wp2_with fail
 go_loopw [7,8,20] (fun _ _ i wr=> ∃j:Nat,j≤n∧i= .int .i64 (j:Nat)∧Lib.IsBuilder 104 5 w1.heap.size w1.heap.size (Lib.byteCells (61::ai8 (vs.take j))) wr∧Below w1.heap.size w1 wr) (fun _ _ i _=>n - (intOf i).toNat)
 case atStart=>exact⟨0,Nat.zero_le _,rfl,HR0.out⟩
 case round=>
  clear HR0
  obtain⟨j,hj,rfl,hb,hl⟩:=hrel
  by_cases hjn:j<n
  ·have hj':j<vs.length:=by rw [HN.out];exact hjn
   obtain⟨g,rfl,hg,d0⟩:=HAT.out j hj'
   have hxs:=HSM.out _ (List.getElem_mem hj')
   have hvj:=List.take_succ_eq_append_getElem hj'
   obtain⟨x,hx⟩: ∃x,vs[j]=x:=⟨_,rfl⟩
   rw [hx] at d0 hxs hvj
   rw [←hl.cell hg] at d0
   have HV:=hJ (show ai8 (vs.take (j+1))=ai8 (vs.take j)++ah0 x by rw [hvj,aK3])
   have HLN:=hJ (show(ai8 (vs.take j)).length≤5*1048576 by rw [an0,List.length_take];omega)
   have HRB:=hJ (show Lib.IsBuilder 104 5 w1.heap.size w1.heap.size (Lib.byteCells (61::(ai8 (vs.take j)++(ah0 x).take 0))) wr∧Below w1.heap.size w1 wr from⟨by rw [List.take_zero,List.append_nil];exact hb,hl⟩)
   clear hvj hx hb hl
   generalize ai8 (vs.take j)=us at*
   go_wp2_with fail
   go_loopw [8] (fun k wi=> ∃m:Nat,m≤4∧k= .int .i64 (12 - 4*(m:Int))∧Lib.IsBuilder 104 5 w1.heap.size w1.heap.size (Lib.byteCells (61::(us++(ah0 x).take m))) wi∧Below w1.heap.size w1 wi) (fun k _=>(intOf k+4).toNat)
   case atStart=>exact⟨0,by decide,rfl,HRB.out⟩
   case round=>
    clear HRB
    obtain⟨m,hm,rfl,hb,hl⟩:=hrel
    obtain rfl|rfl|rfl|rfl|rfl:m=0∨m=1∨m=2∨m=3∨m=4:=by omega
    ·rw [show (12 - 4*((0:Nat):Int))=12 from rfl]
     have e1:bits .and .i64 ((x:Int) / 4096) 15=((x / 4096 % 16:Nat):Int):=by rw [show (x:Int) / 4096=((x / 4096:Nat):Int) by omega];exact aO3 _ (by omega)
     have HC:=hJ (show(ah0 x)[0]? =some (hexG (x / 4096 % 16)) from rfl)
     obtain⟨d,hd⟩: ∃d,x / 4096 % 16=d:=⟨_,rfl⟩
     rw [hd] at e1 HC
     have hd16:d<16:=by omega
     have hlen:(Lib.byteCells (61::(us++(ah0 x).take 0))).length+1≤140737488355328:=by
      have h1:=HLN.out
      have h2:((ah0 x).take 0).length≤5:=by rw [List.length_take];exact Nat.le_trans (Nat.min_le_right _ _) (Nat.le_refl _)
      rw [Lib.byteCells_length,List.length_cons,List.length_append]
      omega
     have HW:=hJ (fun c=>Tryz.Builder_WriteByte w1.heap.size w1.heap.size _ c wr hb hlen hl.size)
     have HL:=hJ hl
     clear hd hb hl hlen
     go_wp2_with (go_at_call 64;refine(HW.out _).mono ?_;rintro e w4 ⟨rfl,hb4,hl4⟩)
     have hb5:Lib.BuilderAt 104 5 w1.heap.size w1.heap.size (.pointer (some ⟨w1.heap.size,0,none⟩)) (Lib.byteCells (61::(us++(ah0 x).take 0))++ [.int .u8 ((hexG d).toNat:Nat)]) w4:=by
      obtain⟨h9,h8⟩:=aP5 d hd16
      rw [←h8]
      exact hb4
     rw [as8 HC.out] at hb5
     go_roundw
     case rel=>exact⟨1,by decide,by first|rfl|go_num,.inr hb5,HL.out.trans hl4⟩
     case measure=>simp [intOf]
    ·rw [show (12 - 4*((1:Nat):Int))=8 from rfl]
     have e1:bits .and .i64 ((x:Int) / 256) 15=((x / 256 % 16:Nat):Int):=by rw [show (x:Int) / 256=((x / 256:Nat):Int) by omega];exact aO3 _ (by omega)
     have HC:=hJ (show(ah0 x)[1]? =some (hexG (x / 256 % 16)) from rfl)
     obtain⟨d,hd⟩: ∃d,x / 256 % 16=d:=⟨_,rfl⟩
     rw [hd] at e1 HC
     have hd16:d<16:=by omega
     have hlen:(Lib.byteCells (61::(us++(ah0 x).take 1))).length+1≤140737488355328:=by
      have h1:=HLN.out
      have h2:((ah0 x).take 1).length≤5:=by rw [List.length_take];exact Nat.le_trans (Nat.min_le_right _ _) (Nat.le_refl _)
      rw [Lib.byteCells_length,List.length_cons,List.length_append]
      omega
     have HW:=hJ (fun c=>Tryz.Builder_WriteByte w1.heap.size w1.heap.size _ c wr hb hlen hl.size)
     have HL:=hJ hl
     clear hd hb hl hlen
     go_wp2_with (go_at_call 64;refine(HW.out _).mono ?_;rintro e w4 ⟨rfl,hb4,hl4⟩)
     have hb5:Lib.BuilderAt 104 5 w1.heap.size w1.heap.size (.pointer (some ⟨w1.heap.size,0,none⟩)) (Lib.byteCells (61::(us++(ah0 x).take 1))++ [.int .u8 ((hexG d).toNat:Nat)]) w4:=by
      obtain⟨h9,h8⟩:=aP5 d hd16
      rw [←h8]
      exact hb4
     rw [as8 HC.out] at hb5
     go_roundw
     case rel=>exact⟨2,by decide,by first|rfl|go_num,.inr hb5,HL.out.trans hl4⟩
     case measure=>simp [intOf]
    ·rw [show (12 - 4*((2:Nat):Int))=4 from rfl]
     have e1:bits .and .i64 ((x:Int) / 16) 15=((x / 16 % 16:Nat):Int):=by rw [show (x:Int) / 16=((x / 16:Nat):Int) by omega];exact aO3 _ (by omega)
     have HC:=hJ (show(ah0 x)[2]? =some (hexG (x / 16 % 16)) from rfl)
     obtain⟨d,hd⟩: ∃d,x / 16 % 16=d:=⟨_,rfl⟩
     rw [hd] at e1 HC
     have hd16:d<16:=by omega
     have hlen:(Lib.byteCells (61::(us++(ah0 x).take 2))).length+1≤140737488355328:=by
      have h1:=HLN.out
      have h2:((ah0 x).take 2).length≤5:=by rw [List.length_take];exact Nat.le_trans (Nat.min_le_right _ _) (Nat.le_refl _)
      rw [Lib.byteCells_length,List.length_cons,List.length_append]
      omega
     have HW:=hJ (fun c=>Tryz.Builder_WriteByte w1.heap.size w1.heap.size _ c wr hb hlen hl.size)
     have HL:=hJ hl
     clear hd hb hl hlen
     go_wp2_with (go_at_call 64;refine(HW.out _).mono ?_;rintro e w4 ⟨rfl,hb4,hl4⟩)
     have hb5:Lib.BuilderAt 104 5 w1.heap.size w1.heap.size (.pointer (some ⟨w1.heap.size,0,none⟩)) (Lib.byteCells (61::(us++(ah0 x).take 2))++ [.int .u8 ((hexG d).toNat:Nat)]) w4:=by
      obtain⟨h9,h8⟩:=aP5 d hd16
      rw [←h8]
      exact hb4
     rw [as8 HC.out] at hb5
     go_roundw
     case rel=>exact⟨3,by decide,by first|rfl|go_num,.inr hb5,HL.out.trans hl4⟩
     case measure=>simp [intOf]
    ·rw [show (12 - 4*((3:Nat):Int))=0 from rfl]
     have e1:bits .and .i64 ((x:Int)) 15=((x % 16:Nat):Int):=aO3 _ (by omega)
     have HC:=hJ (show(ah0 x)[3]? =some (hexG (x % 16)) from rfl)
     obtain⟨d,hd⟩: ∃d,x % 16=d:=⟨_,rfl⟩
     rw [hd] at e1 HC
     have hd16:d<16:=by omega
     have hlen:(Lib.byteCells (61::(us++(ah0 x).take 3))).length+1≤140737488355328:=by
      have h1:=HLN.out
      have h2:((ah0 x).take 3).length≤5:=by rw [List.length_take];exact Nat.le_trans (Nat.min_le_right _ _) (Nat.le_refl _)
      rw [Lib.byteCells_length,List.length_cons,List.length_append]
      omega
     have HW:=hJ (fun c=>Tryz.Builder_WriteByte w1.heap.size w1.heap.size _ c wr hb hlen hl.size)
     have HL:=hJ hl
     clear hd hb hl hlen
     go_wp2_with (go_at_call 64;refine(HW.out _).mono ?_;rintro e w4 ⟨rfl,hb4,hl4⟩)
     have hb5:Lib.BuilderAt 104 5 w1.heap.size w1.heap.size (.pointer (some ⟨w1.heap.size,0,none⟩)) (Lib.byteCells (61::(us++(ah0 x).take 3))++ [.int .u8 ((hexG d).toNat:Nat)]) w4:=by
      obtain⟨h9,h8⟩:=aP5 d hd16
      rw [←h8]
      exact hb4
     rw [as8 HC.out] at hb5
     go_roundw
     case rel=>exact⟨4,by decide,by first|rfl|go_num,.inr hb5,HL.out.trans hl4⟩
     case measure=>simp [intOf]
    ·rw [show (12 - 4*((4:Nat):Int))= -4 from rfl]
     have hlen:(Lib.byteCells (61::(us++(ah0 x).take 4))).length+1≤140737488355328:=by
      have h1:=HLN.out
      have h2:((ah0 x).take 4).length≤5:=by rw [List.length_take];exact Nat.le_trans (Nat.min_le_right _ _) (Nat.le_refl _)
      rw [Lib.byteCells_length,List.length_cons,List.length_append]
      omega
     have HW:=hJ (Tryz.Builder_WriteByte w1.heap.size w1.heap.size _ 44 wr hb hlen hl.size)
     have HL:=hJ hl
     clear hb hl hlen
     go_wp2_with (go_at_call 64;refine HW.out.mono ?_;rintro e w4 ⟨rfl,hb4,hl4⟩)
     have hb5:=hb4
     rw [show (Value.int .u8 44)= .int .u8 ((44:UInt8).toNat:Int) from rfl,as8 (show(ah0 x)[4]? =some 44 from rfl)] at hb5
     go_roundw
     case rel=>exact⟨j+1,by omega,by go_num,.inr (by rw [HV.out];exact hb5),HL.out.trans hl4⟩
     case measure=>simp [intOf];omega
  ·have hjn2:j=n:=by omega
   subst hjn2
   rw [show vs.take j=vs by rw [List.take_of_length_le (by rw [HN.out];exact Nat.le_refl _)]] at hb
   have HS:=hJ (Tryz.Builder_String_any w1.heap.size w1.heap.size _ wr hb hl.size)
   have HL:=hJ hl
   clear hb hl
   go_wp2_with (go_at_call 65;refine HS.out.mono ?_;rintro e w4 ⟨rfl,hl4⟩)
   go_ret
   exact⟨rfl,(HB.out.trans (HL.out.mono HB.out.size)).trans (hl4.mono HB.out.size)⟩
end
section
open Go.RowKit
theorem bX3 (w:World):Calls Tryz.prog 108 #[.string ⟨#[107]⟩] w fun e w'=>e= .returned (.bool true)∧Below w.heap.size w w':=by
 have HS:=hJ (fun W=>show Calls Tryz.prog 166 #[.int .i64 107] W fun e w'=>e= .returned (.bool true)∧Below W.heap.size W w' from by have h:=an9 107 W;rw [show ad5 107=true by kernel_rfl] at h;exact h)
 have HP:=hJ (fun W=>show Calls Tryz.prog 167 #[.int .i64 107] W fun e w'=>e= .returned (.bool true)∧Below W.heap.size W w' from by have h:=az2 107 W;rw [show az1 107=true by kernel_rfl] at h;exact h)
 go_enter Tryz.func108,Tryz.ntmps108
 go_wp2_with fail
 go_loopw [2,3,4] (fun _ _ _ wx=> ∃i:Nat,i≤1∧wx.heap[w.heap.size]? =some (.stringIter ⟨#[107]⟩ i)∧Below w.heap.size w wx∧w.heap.size<wx.heap.size) (fun _ _ _ wx=>1 - wx.iterPos w.heap.size)
 case atStart=>exact⟨0,by omega,World.iter_heap _ _ _,(Below.refl _ _).alloc (Nat.le_refl _) _,by show _<(w.heap.push _).size;simp⟩
 case round=>
  obtain⟨i,hi,hk,hb,hlt⟩:=hrel
  have av5:i=0∨i=1:=by omega
  rcases av5 with rfl|rfl
  ·have hnx:=fun ty=>Lib.run_next_any_at (P:=Tryz.prog) wr _ ⟨#[107]⟩ 0 ty hk (by decide)
   have hd:Utf8.decode ⟨#[107]⟩ 0=(107,1):=by kernel_rfl
   rw [hd] at hnx
   simp only at hnx
   have hk2:=Lib.iterAt_heap wr _ ⟨#[107]⟩ 0 (0+1) hk
   have hb2:Below w.heap.size w (wr.iterAt w.heap.size ⟨#[107]⟩ (0+1)):=Lib.below_iterAt hb (Nat.le_refl _) _ _
   have hl2:w.heap.size<(wr.iterAt w.heap.size ⟨#[107]⟩ (0+1)).heap.size:=by rw [Lib.iterAt_size];exact hlt
   generalize wr.iterAt w.heap.size ⟨#[107]⟩ (0+1)=w2 at*
   have HK:=hJ hk2
   have HKr:=hJ hk
   clear hk hk2 hb hd
   go_wp2_with (first|(go_at_call 167;refine(HP.out _).mono ?_;rintro e w3 ⟨rfl,hb3⟩)|(go_at_call 166;refine(HS.out _).mono ?_;rintro e w4 ⟨rfl,hb4⟩))
   have hbb:=aa1 hb3 hb4
   have hk3:w4.heap[w.heap.size]? =some (.stringIter ⟨#[107]⟩ (0+1)):=(hbb.block _ hl2).trans HK.out
   go_roundw
   case rel=>exact⟨0+1,by omega,hk3,hb2.trans (hbb.mono (by omega)),by have:=hbb.size;omega⟩
   case measure=>simp [World.iterPos,hk3,HKr.out]
  ·have hnx:=fun ty=>Lib.run_next_end_at (P:=Tryz.prog) wr _ ⟨#[107]⟩ 1 ty hk (by decide)
   go_wp2_with fail
   go_ret
   exact⟨rfl,hb⟩
theorem bR6:LitV 39 [107,39] [107]:= .plain 107 _ _ (by decide) (by decide) (by decide) (by decide) .done
theorem bR1:(Tryz.prog.info? 21).map (fun i=>(i.zero,i.size,i.bytes))=some (some (.int .i32 0),1,4):=by kernel_rfl
theorem cb3 (w:World) (hx:Lx w):Calls Tryz.prog 61 #[.string ⟨#[39,107,39]⟩] w fun e w'=>e= .returned (.string ⟨#[107]⟩)∧Below w.heap.size w w':=by
 have HU:=hJ (aO1 ⟨#[39,107,39]⟩ 39 [107,39] [107] w (by decide) (.inl rfl) rfl bR6 hx.tabs)
 obtain⟨i0,hi,hz0,hz1,hz2⟩:=info_parts bR1
 clear hx
 go_enter Tryz.func61,Tryz.ntmps61
 go_upto_region 4 with (go_at_call 63;refine HU.out.mono ?_;rintro e w1 ⟨v,rfl,hu⟩;obtain⟨b,cap,rfl,hat⟩:=hu.at')
 obtain⟨g,rfl,hg,d0⟩:=hat 0 (by decide)
 have HB:=hJ hu.bel
 replace d0:w1.cell? ⟨g,0,none⟩=some (.int .i64 107):=d0
 clear hu hat HU
 go_wp2_with fail
 go_loopw [5,7,8,21,33] (fun v _ _ i _ wr=>(i= .int .i64 0∧v= .slice none 0 0∧w1=wr)∨(i= .int .i64 1∧∃g' cap',v= .slice (some ⟨g',0,none⟩) 1 cap'∧wr.cell? ⟨g',0,none⟩=some (.int .i32 107)∧Below w1.heap.size w1 wr)) (fun _ _ _ i _ _=>1 - (intOf i).toNat)
 case atStart=>exact .inl ⟨rfl,rfl,rfl⟩
 case round=>
  rcases hrel with ⟨rfl,rfl,hw⟩|⟨rfl,g',cap',rfl,e0,hb⟩
  ·subst hw
   go_upto_region 9 with fail
   go_wp2_with (at_builtin;refine wpList_append_own_at _ rfl _ _ 145 rfl w1.heap.size 21 i0 (.int .i32 0) 1 4 (by kernel_rfl) hi hz0 hz1 hz2 rfl (by decide) _ _ _ rfl ((World.ownsRow_nil _ _ _ _).alloc _) ⟨w1.heap.size,0,none⟩ 1 1 [.int .i32 107] rfl rfl (aS3 _ _ _) (fun u hu=>by simp at hu;subst hu;rfl) (by unfold maxLen;omega) (by omega) (by rw [World.size_alloc];omega) ?_)
   intro v6 w6 hown6 hgrow6 _ _
   have hb6:Below w1.heap.size w1 w6:=((Below.refl _ w1).alloc (Nat.le_refl _) _).grown hgrow6 (by rw [World.size_alloc];omega) (fun k hk=>by cases hk)
   obtain⟨g6,cap6,rfl,e6⟩: ∃g6 cap6,v6= .slice (some ⟨g6,0,none⟩) 1 cap6∧w6.cell? ⟨g6,0,none⟩=some (.int .i32 107):=by
    rcases hown6.2 with ⟨_,h0⟩|⟨g6,cap6,cur,e,_⟩
    ·cases h0
    ·refine⟨g6,cap6,e,?_⟩
     rw [e] at hown6
     rw [hown6.cellAt 0 (by decide)]
     rfl
   clear hown6 hgrow6 d0
   go_wp2_with fail
   go_roundw
   case rel=>exact .inr ⟨rfl,g6,cap6,rfl,e6,hb6⟩
   case measure=>simp [intOf]
  ·clear d0
   go_wp2_with fail
   have hcv:(convert 145 9 (.slice (some ⟨g',0,none⟩) 1 cap')).run Tryz.prog wr= .ok (.string ⟨#[107]⟩) wr:=by
    have h:=run_convert_runes (P:=Tryz.prog) wr 145 9 21 ⟨g',0,none⟩ 1 cap' [107] (by decide) (by kernel_rfl) (by kernel_rfl) (by kernel_rfl) (fun j hj=>by
     have hj0:j=0:=by simp at hj;omega
     subst hj0
     exact e0)
    rw [show runesBytes (List.take 1 [107])=⟨#[107]⟩ by kernel_rfl] at h
    exact h
   have HCV:=hJ hcv
   have HBW:=hJ hb
   have HWN:=hJ (bX3 wr)
   clear hcv hb
   go_loopw [10,66] (fun _ i wx=>(i= .int .i64 0∨i= .int .i64 1)∧wr=wx) (fun _ i _=>1 - (intOf i).toNat)
   case atStart=>exact⟨.inl rfl,rfl⟩
   case round=>
    obtain⟨hi2,hw⟩:=hrel
    subst hw
    rcases hi2 with rfl|rfl
    ·go_wp2_with fail
     go_roundw
     case rel=>exact⟨.inr rfl,trivial⟩
     case measure=>simp [intOf]
    ·have hcv:=HCV.out
     go_wp2_with (go_at_call 108;refine HWN.out.mono ?_;rintro e w9 ⟨rfl,hb9⟩)
     go_ret
     exact⟨rfl,(HB.out.trans (HBW.out.mono HB.out.size)).trans (hb9.mono (Nat.le_trans HB.out.size HBW.out.size))⟩
theorem Md.leaf {w w1:World} {F:Nat→Prop} {g o:Nat} {n:Nd} (h:Md w F g o w1 n) (k:Int) (t:ByteArray):
  Md w F g o (((((w1.setCell ⟨g,o,none⟩ (.int .i64 k)).setCell ⟨g,o+1,none⟩ (.string t)).setCell ⟨g,o+2,none⟩ (.slice none 0 0)).setCell ⟨g,o+3,none⟩ (.int .i64 0)).setCell ⟨g,o+4,none⟩ (.int .i64 0)) (.mk k t [] 0 0):=by
 obtain⟨F',h1,h2,h3⟩:=h
 have kp: ∀(W:World) (i:Nat) (v:Value),i<5→Kp w W F g o→Kp w (W.setCell ⟨g,o+i,none⟩ v) F g o:=fun W i v hi hk=>hk.trans (Kp.setCell (F:=fun _=>False) hi) (fun x hx=>hx.elim)
 obtain⟨_,_,d0,d1,d2,d3,d4,f0,f1,f2,f3,f4,_,_⟩:=h2.facts
 have hne: ∀i j,i≠j→(⟨g,o+i,none⟩:Addr)≠⟨g,o+j,none⟩:=fun i j hij e=>by injection e with _ e;omega
 refine⟨F',kp _ 4 _ (by decide) (kp _ 3 _ (by decide) (kp _ 2 _ (by decide) (kp _ 1 _ (by decide) (kp _ 0 _ (by decide) h1)))),?_,fun x hx=>⟨(h3 x hx).1,by simp only [World.size_setCell];exact(h3 x hx).2⟩⟩
 rw [ar9]
 refine⟨fun i hi=> ?_,none,0,fun i hi=> ?_,Nat.le_refl _,.inl rfl⟩
 ·simp only [World.frozen?_setCell]
  match i,hi with
  |0,_=>exact f0
  |1,_=>exact f1
  |2,_=>exact f2
  |3,_=>exact f3
  |4,_=>exact f4
 ·have so: ∀(W:World) (i j:Nat) (v:Value),i≠j→(W.setCell ⟨g,o+j,none⟩ v).cell? ⟨g,o+i,none⟩=W.cell? ⟨g,o+i,none⟩:=fun W i j v hij=>World.cell?_setCell_other _ _ _ _ (hne j i (fun e=>hij e.symm))
  have s0: ∀(W:World) (i:Nat) (v:Value),i≠0→(W.setCell ⟨g,o,none⟩ v).cell? ⟨g,o+i,none⟩=W.cell? ⟨g,o+i,none⟩:=fun W i v hi=>so W i 0 v hi
  have sz: ∀(W:World) (j:Nat) (v:Value),j≠0→(W.setCell ⟨g,o+j,none⟩ v).cell? ⟨g,o,none⟩=W.cell? ⟨g,o,none⟩:=fun W j v hj=>so W 0 j v (fun e=>hj e.symm)
  match i,hi with
  |0,_=>
   show World.cell? _ ⟨g,o,none⟩=_
   rw [sz _ 4 _ (by decide),sz _ 3 _ (by decide),sz _ 2 _ (by decide),sz _ 1 _ (by decide),World.cell?_setCell_same _ _ _ d0]
   rfl
  |1,_=>
   rw [so _ 1 4 _ (by decide),so _ 1 3 _ (by decide),so _ 1 2 _ (by decide),World.cell?_setCell_same _ _ _ ((s0 _ 1 _ (by decide)).trans d1)]
   rfl
  |2,_=>
   rw [so _ 2 4 _ (by decide),so _ 2 3 _ (by decide),World.cell?_setCell_same _ _ _ (((so _ 2 1 _ (by decide)).trans (s0 _ 2 _ (by decide))).trans d2)]
   rfl
  |3,_=>
   rw [so _ 3 4 _ (by decide),World.cell?_setCell_same _ _ _ ((((so _ 3 2 _ (by decide)).trans (so _ 3 1 _ (by decide))).trans (s0 _ 3 _ (by decide))).trans d3)]
   rfl
  |4,_=>
   rw [World.cell?_setCell_same _ _ _ (((((so _ 4 3 _ (by decide)).trans (so _ 4 2 _ (by decide))).trans (so _ 4 1 _ (by decide))).trans (s0 _ 4 _ (by decide))).trans d4)]
   rfl
theorem bR4 (n:Nd) (g o:Nat) (F:Nat→Prop) (w:World) (hs:SpC w n g o F) (hlt:g<w.heap.size) (hF: ∀x,F x→x<w.heap.size) (hk:n.kind=4→n.text=⟨#[39,107,39]⟩) (hx:Lx w):
  Calls Tryz.prog 35 #[.pointer (some ⟨g,o,none⟩),.string ⟨#[95,95,112,114,111,116,111,95,95]⟩] w fun e w'=>e= .returned (.tuple #[])∧Md w F g o w' (keyN n):=by
 obtain⟨_,_,d0,d1,d2,d3,d4,f0,f1,f2,f3,f4,_,_⟩:=hs.facts
 have HM:=hJ (Md.refl hs hF)
 have HN:=hJ (cb3 w hx)
 clear hs hx
 by_cases h4:n.kind=4
 ·have HK:=hJ (show keyN n= .mk 1 ⟨#[107]⟩ [] 0 0 by unfold keyN;rw [if_pos h4])
  rw [hk h4] at d1
  rw [h4] at d0
  clear hk h4
  go_enter Tryz.func35,Tryz.ntmps35
  go_upto_region 2 with (go_at_call 61;refine HN.out.mono ?_;rintro e w1 ⟨rfl,hb1⟩)
  have hgb:=hb1.block g hlt
  have HM1:=hJ (HM.out.bel hlt hb1)
  replace d0:=(World.cell?_of_block (a:=⟨g,o,none⟩) hgb).trans d0
  replace d1:=(World.cell?_of_block (a:=⟨g,o+1,none⟩) hgb).trans d1
  replace d2:=(World.cell?_of_block (a:=⟨g,o+2,none⟩) hgb).trans d2
  replace d3:=(World.cell?_of_block (a:=⟨g,o+3,none⟩) hgb).trans d3
  replace d4:=(World.cell?_of_block (a:=⟨g,o+4,none⟩) hgb).trans d4
  replace f0:=(World.frozen?_of_block (a:=⟨g,o,none⟩) hgb).trans f0
  replace f1:=(World.frozen?_of_block (a:=⟨g,o+1,none⟩) hgb).trans f1
  replace f2:=(World.frozen?_of_block (a:=⟨g,o+2,none⟩) hgb).trans f2
  replace f3:=(World.frozen?_of_block (a:=⟨g,o+3,none⟩) hgb).trans f3
  replace f4:=(World.frozen?_of_block (a:=⟨g,o+4,none⟩) hgb).trans f4
  clear hgb hb1 HM
  go_wp2_with fail
  go_end0
  rw [HK.out]
  exact⟨rfl,HM1.out.leaf 1 _⟩
 ·have HK:=hJ (show keyN n=n by unfold keyN;rw [if_neg h4])
  have b4:(n.kind !=4)=true:=by rw [bne_iff_ne];exact h4
  clear hk h4 HN
  go_enter Tryz.func35,Tryz.ntmps35
  go_wp2_with fail
  refine bodyPost_ret (results_none rfl _ _ _) rfl ?_
  rw [HK.out]
  exact⟨rfl,HM.out⟩
end
section
open Go.RowKit
theorem bv7 (w:World) (g o:Nat) (n:Nd) (b:Option Addr) (cap:Nat) (hc: ∀i,i<5→w.cell? ⟨g,o+i,none⟩=(aa9 n.kind n.text b n.kids.length cap n.from' n.till)[i]?):
  Calls Tryz.prog 40 #[.pointer (some ⟨g,o,none⟩)] w fun e w'=>e= .returned (.bool (aT5 n))∧w'=w:=by
 have d0:w.cell? ⟨g,o,none⟩=some (.int .i64 n.kind):=hc 0 (by decide)
 clear hc
 unfold aT5
 generalize n.kind=k at*
 go_enter Tryz.func40,Tryz.ntmps40
 go_wp2
 go_ret
 refine⟨?_,rfl⟩
 by_cases h:k=59<;>simp [h]
def bz9 (n:Nd):Bool:=(n.kind !=54)|| !n.text.toList.isEmpty
theorem bv8 (w:World) (g o:Nat) (n:Nd) (b:Option Addr) (cap:Nat) (hc: ∀i,i<5→w.cell? ⟨g,o+i,none⟩=(aa9 n.kind n.text b n.kids.length cap n.from' n.till)[i]?):
  Calls Tryz.prog 42 #[.pointer (some ⟨g,o,none⟩)] w fun e w'=>e= .returned (.bool (bz9 n))∧w'=w:=by
 have d0:w.cell? ⟨g,o,none⟩=some (.int .i64 n.kind):=hc 0 (by decide)
 have d1:w.cell? ⟨g,o+1,none⟩=some (.string n.text):=hc 1 (by decide)
 clear hc
 unfold bz9
 generalize n.kind=k at*
 generalize n.text=t at*
 go_enter Tryz.func42,Tryz.ntmps42
 go_wp2
 all_goals
  go_ret
  refine⟨?_,rfl⟩
  simp_all
theorem bh2 {c:UInt8} {r:List UInt8} : ∀l:List UInt8,c ∉ l→Lib.index l (c::r)= -1
 | [],_=>rfl
 |b::l,h=>by
  have h1:(c==b)=false:=beq_eq_false_iff_ne.2 (fun e=>h (e▸ .head _))
  have h2:=bh2 (r:=r) l (fun e=>h (.tail _ e))
  rw [Lib.index,if_neg (by rw [List.isPrefixOf,h1];simp),if_pos (by rw [h2];rfl)]
theorem bw3 (n:Nd):Nd.mk n.kind n.text n.kids n.from' n.till=n:=by cases n;rfl
theorem bV1 (t old new:ByteArray) (c:UInt8) (r:List UInt8) (w:World) (ho:old.data.toList=c::r) (ht:c ∉ t.data.toList) (hs:t.size≤1048576) (hM:as3 w):
  Calls Tryz.prog 36 #[.string t,.string old,.string new] w fun e w'=>e= .returned (.string t)∧Below w.heap.size w w':=by
 obtain⟨m,hm⟩:=hM
 have hi:Lib.index t.data.toList old.data.toList= -1:=by rw [ho];exact bh2 _ ht
 have hc:Lib.countB t old=0:=Lib.countB_miss t old hi
 have h1:1≤old.size:=by rw [←ofl old,ho];simp
 refine(Tryz.strings_ReplaceAll t old new m w (by omega) hm h1 (by rw [hc];omega)).mono ?_
 rintro e w' ⟨rfl,hb⟩
 refine⟨?_,hb⟩
 have hk: ∀k,Lib.replaceK old.data.toList new.data.toList k t.data.toList=t.data.toList:=by
  intro k
  cases k with
  |zero=>rfl
  |succ k=>rw [Lib.replaceK,if_pos (by rw [hi];rfl)]
 unfold Lib.replaceAll Lib.replace
 split
 ·rfl
 ·rw [hk]
theorem bv9 (w0:World) (hx:Lx w0): ∀(z:Nat) (n:Nd),aa0 n≤z→okC n=true→∀(g o:Nat) (F:Nat→Prop) (w:World) (c:Bool),SpC w n g o F→¬F g→(∀x,F x→w0.heap.size≤x∧x<w.heap.size)→w0.heap.size≤g→g<w.heap.size→Below w0.heap.size w0 w→
  Calls Tryz.prog 21 #[.pointer (some ⟨g,o,none⟩),.bool c] w fun e w'=>e= .returned (.tuple #[])∧Md w F g o w' (canN n):=by
 intro z
 induction z with
 |zero=>
  intro n hz
  rw [ad4] at hz
  omega
 |succ z ih=>
  intro n hz hok g o F w c hs hg hF hgb hgl hbw
  rw [bN5,Bool.and_eq_true,Bool.and_eq_true,Bool.and_eq_true,Bool.and_eq_true,decide_eq_true_eq,List.all_eq_true] at hok
  obtain⟨⟨⟨⟨hk,ht⟩,hl⟩,hpk⟩,hkids⟩:=hok
  have HIH:=hJ ih
  have HKS:=hJ (show∀k ∈ (swN n).kids,aa0 k≤z∧okC k=true from fun k hk=>by
   rw [ad4] at hz
   have key: ∀x ∈ n.kids,aa0 x≤z∧okC x=true:=fun x hx=>⟨by have:=am0 hx;omega,hkids x hx⟩
   change k ∈ drpN n.kind n.kids at hk
   unfold drpN at hk
   split at hk
   ·exact key k (List.mem_filter.1 hk).1
   ·split at hk
    ·cases hks:n.kids with
     |nil=>rw [hks] at hk;cases hk
     |cons x xs=>
      rw [hks] at hk key
      rcases List.mem_cons.1 hk with rfl|hk
      ·have h1:=key x (.head _)
       unfold keyN
       split
       ·have h2:=ad4 x
        exact⟨by show 1+0≤z;omega,rfl⟩
       ·exact h1
      ·exact key k (.tail _ hk)
    ·exact key k hk)
  have HPK:=hJ hpk
  have HS:=hJ hs
  have HX:=hJ hx
  clear ih hkids hs hx hpk hz
  go_enter Tryz.func21,Tryz.ntmps21
  go_upto_if 8 with fail
  go_cut [4] (fun _ wx=>w=wx)
  case first=>
   cases c
   all_goals
    go_wp2_with fail
    go_meet
    rfl
  case rest=>
   subst hcut
   obtain⟨b,cap,d0,d1,d2,d3,d4,f0,f1,f2,f3,f4,hcap,_⟩:=HS.out.facts
   obtain⟨K,hK⟩: ∃K,n.kind=K:=⟨_,rfl⟩
   obtain⟨T,hT⟩: ∃T,n.text=T:=⟨_,rfl⟩
   rw [hK] at d0 hk ht
   rw [hT] at d1 ht
   have HK:=hJ hK
   have HT:=hJ hT
   have HM0:=hJ (Md.refl HS.out (fun x hx=>(hF x hx).2))
   have HXW:=hJ (HX.out.bel hbw)
   have HOK:=hJ hk
   have HOT:=hJ ht
   clear hK hT hk ht
   go_upto_block 0 with fail
   go_cut [4,5,6] from 13 to 104 (fun _ _ _ wx=>Md w F g o wx (swN n))
   case first=>
    have hok:=HOK.out
    unfold okK at hok
    simp only [Bool.and_eq_true,Bool.not_eq_true',decide_eq_false_iff_not] at hok
    obtain⟨⟨⟨n15,n16⟩,n44⟩,n54⟩:=hok
    have hot:=HOT.out
    unfold okT at hot
    rw [Bool.and_eq_true,Bool.and_eq_true,decide_eq_true_eq] at hot
    obtain⟨⟨ht4,ht9⟩,hts⟩:=hot
    have HSW:=hJ (show swN n= .mk K (canT K T) (drpN K n.kids) n.from' n.till by unfold swN;rw [HK.out,HT.out])
    by_cases h9:K=9∨K=51∨K=78
    ·have h13:(13:UInt8) ∉ T.data.toList:=by
      rw [decide_eq_true h9] at ht9
      simp at ht9
      simpa using ht9
     have HRA:=hJ (fun(old:ByteArray) (r:List UInt8) (W:World) (ho:old.data.toList=13::r) (hb:Below w.heap.size w W)=>bV1 T old ⟨#[10]⟩ 13 r W ho h13 hts (HXW.out.max.below hb))
     have HB:=hJ (Below.refl w.heap.size w)
     have HS2:=hJ (show swN n= .mk n.kind T n.kids n.from' n.till by rw [HSW.out,HK.out];unfold canT drpN;rw [if_neg (by omega),if_neg (by omega),if_neg (by omega),if_neg (by omega)])
     clear ht4 ht9 h13
     rcases h9 with rfl|rfl|rfl
     all_goals
      go_wp2_with (go_at_call 36;refine(HRA.out _ _ _ rfl HB.out).mono ?_;rintro e w2 ⟨rfl,hb2⟩;replace HB:=hJ (aa1 HB.out hb2);clear hb2;have e1:=(World.cell?_of_block (a:=⟨g,o+1,none⟩) (HB.out.block g hgl)).trans d1;have f11:=(World.frozen?_of_block (a:=⟨g,o+1,none⟩) (HB.out.block g hgl)).trans f1)
      go_meet
      rw [HS2.out]
      exact(HM0.out.bel hgl HB.out).text hg hgl T
    by_cases h4:K=4
    ·have hsm:(au0 T).isSome=true:=by
      rw [decide_eq_true h4] at ht4
      simpa using ht4
     have HS2:=hJ (show swN n= .mk n.kind (aQ9 T) n.kids n.from' n.till by rw [HSW.out,HK.out];unfold canT drpN;rw [if_pos h4,if_neg (by omega),if_neg (by omega)])
     have HC:=hJ (br4 T w hts hsm HXW.out)
     clear ht4 ht9 hsm h9
     subst h4
     go_wp2_with (go_at_call 37;refine HC.out.mono ?_;rintro e w2 ⟨rfl,hb2⟩;have HB:=hJ hb2;clear hb2;have e1:=(World.cell?_of_block (a:=⟨g,o+1,none⟩) (HB.out.block g hgl)).trans d1;have f11:=(World.frozen?_of_block (a:=⟨g,o+1,none⟩) (HB.out.block g hgl)).trans f1)
     go_meet
     rw [HS2.out]
     exact(HM0.out.bel hgl HB.out).text hg hgl _
    by_cases h3:K=3
    ·have HS2:=hJ (show swN n= .mk n.kind (numC T) n.kids n.from' n.till by rw [HSW.out,HK.out];unfold canT drpN;rw [if_neg h4,if_pos h3,if_neg (by omega),if_neg (by omega)])
     have HC:=hJ (bq9 T w (by omega) HXW.out.max)
     clear ht4 ht9 h9 h4
     subst h3
     by_cases hc:(av4 T).2=0
     ·have HN:=hJ (show numC T=⟨(av4 T).1.toArray⟩ by unfold numC;rw [if_pos hc])
      rw [hc] at HC
      clear hc
      go_wp2_with (go_at_call 38;refine HC.out.mono ?_;rintro e w2 ⟨rfl,hb2⟩;have HB:=hJ hb2;clear hb2;have e1:=(World.cell?_of_block (a:=⟨g,o+1,none⟩) (HB.out.block g hgl)).trans d1;have f11:=(World.frozen?_of_block (a:=⟨g,o+1,none⟩) (HB.out.block g hgl)).trans f1)
      go_meet
      rw [HS2.out,HN.out]
      exact(HM0.out.bel hgl HB.out).text hg hgl _
     ·have HN:=hJ (show numC T=T by unfold numC;rw [if_neg hc])
      have hcb:((av4 T).2==0)=false:=by rw [beq_eq_false_iff_ne];exact hc
      clear hc
      go_wp2_with (go_at_call 38;refine HC.out.mono ?_;rintro e w2 ⟨rfl,hb2⟩;have HB:=hJ hb2;clear hb2)
      go_meet
      rw [HS2.out,HN.out,←HT.out,bw3]
      exact HM0.out.bel hgl HB.out
    by_cases h86:K=86∨K=58
    ·have HS2:=hJ (show swN n= .mk n.kind n.text (n.kids.filter aT5) n.from' n.till by rw [HSW.out,HK.out,HT.out];unfold canT drpN;rw [if_neg h4,if_neg h3,if_pos h86])
     have HC:=hJ (bh3 40 aT5 (fun _ _=>by kernel_rfl) bv7 n g o F w HS.out hg (fun x hx=>(hF x hx).2) hgl hl)
     clear ht4 ht9 h9 h4 h3
     rcases h86 with rfl|rfl
     all_goals
      go_wp2_with (go_at_call 39;refine HC.out.mono ?_;rintro e w2 ⟨rfl,hkp,hsp⟩)
      go_meet
      rw [HS2.out]
      exact⟨_,hkp,hsp,fun x hx=>⟨hx.imp id (fun h=>h.1),by rcases hx with hx|hx;exact Nat.lt_of_lt_of_le (hF x hx).2 hkp.size;exact hx.2⟩⟩
    by_cases n13:K=13
    ·have hpk:=HPK.out
     rw [HK.out,HT.out] at hpk
     unfold okP at hpk
     rw [n13] at hpk
     simp only [decide_true,Bool.not_true,Bool.false_or,Bool.and_eq_true,decide_eq_true_eq] at hpk
     obtain⟨hT0,hkk⟩:=hpk
     cases hks:n.kids with
     |nil=>rw [hks] at hkk;cases hkk
     |cons k0 ks0=>
     rw [hks] at hkk
     have hk4:k0.kind=4→k0.text=⟨#[39,107,39]⟩:=fun h=>by
      have hkk2:(!decide (k0.kind=4)||decide (k0.text=⟨#[39,107,39]⟩))=true:=hkk
      rw [decide_eq_true h] at hkk2
      simpa using hkk2
     have HS2:=hJ (show swN n= .mk n.kind n.text (n.kids.set 0 (keyN k0)) n.from' n.till by rw [HSW.out,HK.out,HT.out];unfold canT drpN;rw [if_neg h4,if_neg h3,if_neg h86,if_pos n13,hks];rfl)
     obtain⟨g2,F2,cap2,k1,k2,k3,k5,k6,k7⟩:=HS.out.kid hg (fun x hx=>(hF x hx).2) 0 (by rw [hks];simp)
     have ek0:n.kids[0]'(by rw [hks];simp)=k0:=by simp [hks]
     rw [ek0] at k6
     have hl1:n.kids.length=ks0.length+1:=by rw [hks];rfl
     rw [hl1] at k1
     have hcp:ks0.length+1≤cap2:=by rw [k1] at d2;injection d2 with d2;injection d2 with _ _ d2;omega
     have hll:ks0.length+1≤4194304:=by omega
     have hl0:0<ks0.length+1:=by omega
     clear d2
     generalize ks0.length+1=L at*
     have HKY:=hJ (bR4 k0 g2 (0*5) F2 w k6 (hF g2 k2).2 (fun x hx=>(hF x (k5 x hx)).2) hk4 HXW.out)
     have HK7:=hJ k7
     clear ht4 ht9 h9 h4 h3 h86 hkk hk4 hks ek0 hl1 k2 k3 k5 k6 k7
     subst hT0
     subst n13
     go_wp2_with (go_at_call 35;refine HKY.out.mono ?_;rintro e w2 ⟨rfl,F3,a1,a2,a3⟩)
     go_meet
     rw [HS2.out]
     obtain⟨q1,q2⟩:=HK7.out w2 _ F3 a1 a2 a3
     exact⟨_,q1,q2,fun x hx=>⟨hx.imp id (fun h=>h.1),by rcases hx with hx|hx;exact Nat.lt_of_lt_of_le (hF x hx).2 a1.size;exact hx.2⟩⟩
    ·have HS2:=hJ (show swN n=n by rw [HSW.out];unfold canT drpN;rw [if_neg h4,if_neg h3,if_neg h86,if_neg n13,←HK.out,←HT.out,bw3])
     have b1:(K==13)=false:=beq_eq_false_iff_ne.2 n13
     have b2:(K==44)=false:=beq_eq_false_iff_ne.2 n44
     have b3:(K==15)=false:=beq_eq_false_iff_ne.2 n15
     have b4:(K==16)=false:=beq_eq_false_iff_ne.2 n16
     have b5:(K==54)=false:=beq_eq_false_iff_ne.2 n54
     have b6:(K==9)=false:=beq_eq_false_iff_ne.2 (by omega)
     have b7:(K==51)=false:=beq_eq_false_iff_ne.2 (by omega)
     have b8:(K==78)=false:=beq_eq_false_iff_ne.2 (by omega)
     have b9:(K==4)=false:=beq_eq_false_iff_ne.2 h4
     have b10:(K==3)=false:=beq_eq_false_iff_ne.2 h3
     have b11:(K==86)=false:=beq_eq_false_iff_ne.2 (by omega)
     have b12:(K==58)=false:=beq_eq_false_iff_ne.2 (by omega)
     clear ht4 ht9 h9 h4 h3 h86 n13 n15 n16 n44 n54
     go_wp2_with fail
     go_meet
     rw [HS2.out]
     exact HM0.out
   case rest=>
    have HC0:=hJ hcut
    obtain⟨m,hm⟩: ∃m,(swN n).kids.length=m:=⟨_,rfl⟩
    have hml:m≤4194304:=by
     rw [←hm]
     refine Nat.le_trans ?_ hl
     show(drpN n.kind n.kids).length≤_
     unfold drpN
     split
     ·exact List.length_filter_le _ _
     ·split
      ·cases n.kids<;>exact Nat.le_refl _
      ·exact Nat.le_refl _
    have HMM:=hJ hm
    have HEQ:=hJ (show canN n= .mk (swN n).kind (swN n).text ((swN n).kids.map canN) (swN n).from' (swN n).till from bP5 n)
    have HKD:=hJ (show(swN n).kind=K from HK.out)
    clear d0 d1 d2 d3 d4 f0 f1 f2 f3 f4 HM0 HXW HOK HOT HT HK HS hcut hm
    generalize swN n=n1 at*
    obtain⟨F1,hs1,_,_,_,_⟩:=HC0.out.at' hg hgl (fun x hx=>(hF x hx).1) (Nat.le_trans hgb (Nat.le_of_lt hgl))
    obtain⟨b1,cap1,_,_,e2,_,_,_,_,_,_,_,hcap1,_⟩:=hs1.facts
    rw [HMM.out] at e2
    clear hs1
    go_wp2_with fail
    go_loopw [7,110] (fun _ i wr=> ∃j:Nat,j≤m∧i= .int .i64 (j:Nat)∧Md w F g o wr (midN n1 j)) (fun _ i _=>m - (intOf i).toNat)
    case atStart=>exact⟨0,Nat.zero_le _,rfl,by rw [bw0];exact HC0.out⟩
    case round=>
     clear HC0 e2
     obtain⟨j,hj,rfl,hmd⟩:=hrel
     have HMD:=hJ hmd
     by_cases hjm:j<m
     ·have hj':j<n1.kids.length:=by rw [HMM.out];exact hjm
      obtain⟨g2,F2,cap2,k1,k2,k3,k4,k5,k6,k7⟩:=hmd.kid hj' hg hgl (fun x hx=>(hF x hx).1) (Nat.le_trans hgb (Nat.le_of_lt hgl))
      obtain⟨F3,hs3,_,_,_,_⟩:=hmd.at' hg hgl (fun x hx=>(hF x hx).1) (Nat.le_trans hgb (Nat.le_of_lt hgl))
      have d0:wr.cell? ⟨g,o,none⟩=some (.int .i64 K):=by
       obtain⟨_,_,h,_⟩:=hs3.facts
       rw [←HKD.out]
       exact h
      have hcl:m≤cap2:=by
       obtain⟨_,cap,_,_,h,_,_,_,_,_,_,_,hc,_⟩:=hs3.facts
       rw [k1] at h
       injection h with h
       injection h with _ _ h
       rw [aP9 n1 j (Nat.le_of_lt hj'),HMM.out] at hc
       omega
      rw [HMM.out] at k1
      have HCALL:=hJ (fun(W:World) (hb:Below wr.heap.size wr W) (c:Bool)=>show Calls Tryz.prog 21 #[.pointer (some ⟨g2,j*5,none⟩),.bool c] W fun e w2=>e= .returned (.tuple #[])∧Md w F g o w2 (midN n1 (j+1)) from by
       have hgw:g<wr.heap.size:=by
        obtain⟨_,h,_⟩:=hmd
        exact Nat.lt_of_lt_of_le hgl h.size
       have hmW:=hmd.bel hgl hb
       obtain⟨g3,F4,cap4,q1,q2,q3,q4,q5,q6,q7⟩:=hmW.kid hj' hg hgl (fun x hx=>(hF x hx).1) (Nat.le_trans hgb (Nat.le_of_lt hgl))
       rw [World.cell?_of_block (hb.block g hgw),k1] at q1
       obtain rfl:g2=g3:=by
        injection q1 with q1
        injection q1 with q1
        injection q1 with q1
        injection q1
       refine(HIH.out _ (HKS.out _ (List.getElem_mem hj')).1 (HKS.out _ (List.getElem_mem hj')).2 g2 (j*5) F4 W c q6 q2 q3 q4 q5 (hbw.trans (hmW.below hgb (fun x hx=>(hF x hx).1) (Nat.le_trans hgb (Nat.le_of_lt hgl))))).mono ?_
       rintro e w2 ⟨rfl,h⟩
       exact⟨rfl,q7 w2 h⟩)
      clear k2 k3 k4 k5 k6 k7 hs3 hmd
      go_upto_region 30 with fail
      go_region_law (go_simp;(with_reducible refine(HCALL.out _ (Below.drew (Below.refl _ _)) _).mono ?_);rintro e w2 ⟨rfl,hmd2⟩)
      all_goals
       go_wp2_with fail
       go_roundw
       case rel=>exact⟨j+1,hjm,by go_num,hmd2⟩
       case measure=>simp [intOf];omega
     ·have hjm2:j=m:=by omega
      subst hjm2
      have e:midN n1 j=canN n:=by rw [HEQ.out,←HMM.out,bH5]
      rw [e] at hmd
      obtain⟨F3,hs3,hg3,hF3,hgl3,hnx⟩:=hmd.at' hg hgl (fun x hx=>(hF x hx).1) (Nat.le_trans hgb (Nat.le_of_lt hgl))
      have hkl:(canN n).kids.length≤4194304:=by
       rw [HEQ.out]
       show(n1.kids.map canN).length≤_
       rw [List.length_map,HMM.out]
       exact hml
      have hfil:(canN n).kids.filter bz9=(canN n).kids:=by
       rw [List.filter_eq_self]
       intro k hk
       rw [HEQ.out] at hk
       obtain⟨k0,hk0,rfl⟩:=List.mem_map.1 hk
       have h1:=(HKS.out k0 hk0).2
       rw [bN5,Bool.and_eq_true,Bool.and_eq_true,Bool.and_eq_true,Bool.and_eq_true] at h1
       have h2:=h1.1.1.1.1
       unfold okK at h2
       simp only [Bool.and_eq_true,Bool.not_eq_true',decide_eq_false_iff_not] at h2
       unfold bz9
       rw [aH0]
       simp [h2.2]
      have HC:=hJ (bh3 42 bz9 (fun _ _=>by kernel_rfl) bv8 (canN n) g o F3 wr hs3 hg3 (fun x hx=>(hF3 x hx).2) hgl3 hkl)
      rw [hfil,bw3] at HC
      clear hs3 hmd HMD e hkl hfil
      go_wp2_with (go_at_call 39;refine HC.out.mono ?_;rintro e w2 ⟨rfl,hkp,hsp⟩)
      go_end0
      exact⟨rfl,hnx ⟨_,hkp,hsp,fun x hx=>⟨hx.imp id (fun h=>h.1),by rcases hx with hx|hx;exact Nat.lt_of_lt_of_le (hF3 x hx).2 hkp.size;exact hx.2⟩⟩⟩
theorem bH3 (w0:World) (hx:Lx w0) (n:Nd) (hok:okC n=true) (g o:Nat) (F:Nat→Prop) (w:World) (c:Bool) (hs:SpC w n g o F) (hg: ¬F g) (hF: ∀x,F x→w0.heap.size≤x∧x<w.heap.size) (hgb:w0.heap.size≤g) (hgl:g<w.heap.size) (hb:Below w0.heap.size w0 w):
  Calls Tryz.prog 21 #[.pointer (some ⟨g,o,none⟩),.bool c] w fun e w'=>e= .returned (.tuple #[])∧Md w F g o w' (canN n):=bv9 w0 hx _ n (Nat.le_refl _) hok g o F w c hs hg hF hgb hgl hb
end
section
open Go.RowKit
theorem SpC.box {w:World} {m:Nd} {b:Option Addr} {cap r:Nat} {F:Nat→Prop} {T:TypeId} (h:w.heap[r]? =some (.cells #[.int .i64 m.kind,.string m.text,.slice b m.kids.length cap,.int .i64 m.from',.int .i64 m.till] T (0,0))) (hc:m.kids.length≤cap) (hx:SpX w m.kids b F):SpC w m r 0 F:=by
 rw [ar9]
 refine⟨fun i _=>frozen_of_row w r _ _ _ h,b,cap,fun i hi=> ?_,hc,hx⟩
 rw [cell_of_row _ _ _ _ _ _ h,Nat.zero_add]
 rfl
theorem aF9 (n:Nd) (v:Value) (w:World) (L B:Nat) (hv:NdV w L B n v) (hB:B≤w.heap.size) (hsz:aa0 n≤4194304) (hok:okC (au8 n)=true) (hx:Lx w):
  Calls Tryz.prog 12 #[v] w fun e w'=> ∃u,e= .returned u∧NdV w' w.heap.size w'.heap.size (canN (au8 n)) u∧Below w.heap.size w w':=by
 obtain⟨b,cap,rfl,hcap,hrow⟩:=hv
 obtain⟨m,hm⟩: ∃m,au8 n=m:=⟨_,rfl⟩
 rw [hm] at hok⊢
 obtain⟨k,hk⟩: ∃k,canN m=k:=⟨_,rfl⟩
 rw [hk]
 unfold aa9 at*
 have hba:=(aj0 w (.cells #[.int .i64 n.kind,.string n.text,.slice b n.kids.length cap,.int .i64 n.from',.int .i64 n.till] 27)).alloc (by simp) (.cells #[.int .i64 0,.string ⟨#[]⟩,.slice none 0 0,.int .i64 0,.int .i64 0] 27)
 have hbx:=(aA9 w n b cap).bel (aj0 _ (.cells #[.int .i64 0,.string ⟨#[]⟩,.slice none 0 0,.int .i64 0,.int .i64 0] 27)) (by simp)
 have hbq:aa5 ((w.alloc (.cells #[.int .i64 n.kind,.string n.text,.slice b n.kids.length cap,.int .i64 n.from',.int .i64 n.till] 27)).alloc (.cells #[.int .i64 0,.string ⟨#[]⟩,.slice none 0 0,.int .i64 0,.int .i64 0] 27)) (w.heap.size+1) 0 ⟨#[]⟩ (.slice none 0 0) 0 0:=by
  have:=heap_alloc_new (w.alloc (.cells #[.int .i64 n.kind,.string n.text,.slice b n.kids.length cap,.int .i64 n.from',.int .i64 n.till] 27)) (.cells #[.int .i64 0,.string ⟨#[]⟩,.slice none 0 0,.int .i64 0,.int .i64 0] 27)
  rw [World.size_alloc] at this
  exact this
 have HR:=hJ hrow
 have HX:=hJ hx
 clear hrow hx
 go_enter Tryz.func12,Tryz.ntmps12
 go_upto_region 1 with fail
 generalize World.alloc (World.alloc w _) _=w1 at*
 have HB:=hJ hba
 have HQ:=hJ hbq
 have hsz1:=hba.size
 have hN:=bp1 n (.agg #[.int .i64 n.kind,.string n.text,.slice b n.kids.length cap,.int .i64 n.from',.int .i64 n.till]) w1 L B ⟨b,cap,rfl,hcap,af0 HR.out (hba.mono hB)⟩ (Nat.le_trans hB hsz1) hsz
 rw [hm] at hN
 have HN:=hJ hN
 clear hN hm
 obtain⟨z0,z1,z2,z3,z4,_⟩:=hbx.facts
 go_upto_region 2 with (go_at_call 20;refine HN.out.mono ?_;rintro e w2 ⟨u,rfl,hu,hb2⟩;have HB2:=hJ hb2;have HU:=hJ hu;obtain⟨b4,cap4,rfl,_⟩:=hu;unfold aa9 at*)
 clear hba hbx hbq z0 z1 z2 z3 z4
 obtain⟨b5,cap5,e5,hc5,hx5⟩:=HU.out
 unfold aa9 at e5
 obtain⟨rfl,rfl⟩:b4=b5∧cap4=cap5:=by
  injection e5 with e5
  injection e5 with e5
  simp at e5
  exact e5
 have hal:=aj0 w2 (.cells #[.int .i64 m.kind,.string m.text,.slice b4 m.kids.length cap4,.int .i64 m.from',.int .i64 m.till] 27)
 have hsp:SpC (w2.alloc (.cells #[.int .i64 m.kind,.string m.text,.slice b4 m.kids.length cap4,.int .i64 m.from',.int .i64 m.till] 27)) m w2.heap.size 0 (fun y=>w1.heap.size≤y∧y<w2.heap.size):=
  SpC.box (heap_alloc_new _ _) hc5 (au3 (fun x hx=>hal.block x hx.2) (fun _ h=>h) hx5)
 have hb3:=aa1 (aa1 HB.out HB2.out) hal
 have HQ3:=hJ ((HQ.out.bel HB2.out).bel hal)
 have hsz2:=HB2.out.size
 have hsa:(w2.alloc (.cells #[.int .i64 m.kind,.string m.text,.slice b4 m.kids.length cap4,.int .i64 m.from',.int .i64 m.till] 27)).heap.size=w2.heap.size+1:=World.size_alloc _ _
 generalize w2.alloc (.cells #[.int .i64 m.kind,.string m.text,.slice b4 m.kids.length cap4,.int .i64 m.from',.int .i64 m.till] 27)=w3 at*
 have HB3:=hJ hb3
 have hMC:=bH3 w HX.out m hok w2.heap.size 0 _ w3 false hsp (fun h=>by omega) (fun x hx=>⟨by omega,by omega⟩) (by omega) (by omega) hb3
 rw [hk] at hMC
 have HMC:=hJ hMC
 clear hMC hk
 clear hal hb3 hsp e5 hx5 HU HN
 go_upto_region 3 with (go_at_call 21;refine HMC.out.mono ?_;rintro e w4 ⟨rfl,hmd⟩)
 obtain⟨F',hkp,hs4,hf4⟩:=hmd
 have hql:=HQ.out.lt
 have hq4:aa5 w4 (w.heap.size+1) 0 ⟨#[]⟩ (.slice none 0 0) 0 0:=(hkp.blk (w.heap.size+1) HQ3.out.lt (by omega) (fun h=>by omega)).trans HQ3.out
 have HB4:=hJ (HB3.out.trans (hkp.below (B:=w.heap.size) (by omega) (fun x hx=>by omega) (by omega)))
 have hkz:=hkp.size
 obtain⟨b6,cap6,c0,c1,c2,c3,c4,_,_,_,_,_,hc6,hx6⟩:=hs4.facts
 have HQ4:=hJ hq4
 have HX6:=hJ hx6
 obtain⟨x0,x1,x2,x3,x4,y0,y1,y2,y3,y4⟩:=aa5.facts hq4
 simp only [Nat.zero_add] at c0 c1 c2 c3 c4
 clear hq4 hx6 hs4 HMC
 go_wp2_with fail
 refine bodyPost_ret (ap8 rfl _ _ (w.heap.size+1) rfl HQ4.out.lay) rfl ?_
 refine⟨_,rfl,⟨b6,cap6,rfl,hc6,SpX.row (F:=F') (fun x hx=> ?_) (au3 (fun x hx=>ag6 _ _ _ _ _ _ _ _ ?_) (fun _ h=>h) HX6.out)⟩,lay5_bel HB4.out (by omega) _ _ _ _ _⟩
 ·obtain⟨h1,h2⟩:=hf4 x hx
  simp only [World.size_setCell]
  omega
 ·obtain⟨h1,h2⟩:=hf4 x hx
  omega
end
end Go.Proofs.YtnobjeelihkjmaaGreatDoor
