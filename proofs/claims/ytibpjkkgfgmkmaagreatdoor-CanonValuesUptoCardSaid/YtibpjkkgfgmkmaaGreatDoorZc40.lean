/- Steps (Cd Cy Cm Cc). Conditions: as stated. -/
import Derived.Test.YtibpjkkgfgmkmaaGreatDoorZc01
import Derived.Test.YtibpjkkgfgmkmaaGreatDoorZc38
import Derived.Test.YtibpjkkgfgmkmaaGreatDoorZc39
import Derived.Test.YtibpjkkgfgmkmaaGreatDoorZc07
set_option maxHeartbeats 4000000
set_option maxRecDepth 100000
namespace Go.Proofs
open Go.RowKit Go.Shelf
def Tryz.laysW_ren:Go.Shelf.Ren:= { Tryz.lays154_ren with f:=fun|167=>63|n=>Tryz.lays154_ren.f n }
theorem Tryz.laysW:Go.Proofs.Lays.n167 Tryz.prog Tryz.laysW_ren:= { Tryz.lays154 with f167:=Tryz.func63.trans (congrArg some (by kernel_rfl)),t5:=Tryz.underlying5,a5:=Tryz.isAgg5,z5:=Tryz.sizeOf5,v5:=Tryz.zeroValue5 }
theorem Tryz.Builder_Extra_W:Builder.Extra Tryz.prog Tryz.laysW_ren:= { Tryz.Builder_Extra_154 with }
theorem Tryz.Builder_WriteByte (B b:Nat) (bs:List Value) (c:Int) (w:World) (h:Lib.IsBuilder 105 5 B b bs w) (hlen:bs.length+1≤140737488355328) (hBw:B≤w.heap.size):
  Calls Tryz.prog 63 #[.pointer (some ⟨b,0,none⟩),.int .u8 c] w fun e w'=>e= .returned .nilIface∧(Lib.BuilderAt 105 5 B b (.pointer (some ⟨b,0,none⟩)) (bs++ [.int .u8 c]) w'∧Below B w w'):=
 Any.Builder_WriteByte Tryz.laysW Tryz.Builder_Extra_W B b bs c w h hlen hBw
end Go.Proofs
namespace Go.Proofs.YtibpjkkgfgmkmaaGreatDoor
section
open Go.RowKit
theorem LitV.len {q:UInt8} {l:List UInt8} {vs:List Nat} (h:LitV q l vs):vs.length≤l.length:=by
 induction h with
 |done=>simp
 |plain c l vs _ _ _ _ _ ih=>simp;omega
 |x a b l vs _ _ _ ih=>simp;omega
 |u a b c d l vs _ _ _ _ _ ih=>simp;omega
theorem aN4: ∀n,n<16→∃h:n<bo6.size,bo6[n]=hexG n:=by decide
theorem aM2 (y:Nat) (hy:y<65536):bits .and .i64 (y:Int) 15=((y % 16:Nat):Int):=by
 show IntKind.i64.wrap ((BitVec.ofInt 64 (y:Int) &&& BitVec.ofInt 64 15).toNat:Int)=_
 have h1:(BitVec.ofInt 64 (y:Int)).toNat=y:=by
  rw [BitVec.ofInt_natCast,BitVec.toNat_ofNat];exact Nat.mod_eq_of_lt (by omega)
 have h2:(BitVec.ofInt 64 15).toNat=15:=rfl
 rw [BitVec.toNat_and,h1,h2,show y &&& 15=y % 16 from Nat.and_two_pow_sub_one_eq_mod y 4]
 exact IntWalk.i64_in _ (by omega)
theorem ar7 {us:List UInt8} {x m:Nat} {c:UInt8} (hc:(ak0 x)[m]? =some c):Lib.byteCells (61::(us++(ak0 x).take m))++ [.int .u8 (c.toNat:Int)]=Lib.byteCells (61::(us++(ak0 x).take (m+1))):=by
 rw [List.take_add_one,hc,←List.append_assoc]
 show _=Lib.byteCells ((61::(us++(ak0 x).take m))++ [c])
 rw [Lib.byteCells_append (61::(us++(ak0 x).take m)) [c]]
 rfl
theorem bn3 (t:ByteArray) (w:World) (hs:t.size≤1048576) (h:(aL7 t).isSome=true) (hx:Lx w):
  Calls Tryz.prog 36 #[.string t] w fun e w'=>e= .returned (.string (bv5 t))∧Below w.heap.size w w':=by
 obtain⟨vs,hvs⟩:=Option.isSome_iff_exists.1 h
 obtain⟨q,l,hq,hd,hlit⟩:=bk7 hvs
 have hln:vs.length≤1048576:=by
  have h1:=hlit.len
  have h2:t.size=(q::l).length:=by rw [←hd];exact(ofl t).symm
  rw [List.length_cons] at h2
  omega
 have HSM:=hJ hlit.small
 have hU:=bk8 t q l vs w (by omega) hq hd hlit hx.tabs
 have hsc:bv5 t=⟨(61::al9 vs).toArray⟩:=by unfold bv5;rw [hvs]
 rw [hsc]
 have HU:=hJ hU
 clear hU hsc hlit hq hd hvs h hx
 go_enter Tryz.func36,Tryz.ntmps36
 go_upto_region 4 with (go_at_call 62;refine HU.out.mono ?_;rintro e w1 ⟨v,rfl,hu⟩)
 obtain⟨b,cap,rfl,hat⟩:=hu.at'
 have HAT:=hJ hat
 have HB:=hJ hu.bel
 clear hu hat HU
 obtain⟨n,hn⟩: ∃n,vs.length=n:=⟨_,rfl⟩
 have HN:=hJ hn
 rw [hn] at hln⊢
 clear hn
 have hb0:=Lib.fresh_isBuilder 105 5 w1
 have hl0:=(Below.refl _ w1).alloc (Nat.le_refl _) (.cells #[.pointer none,.slice none 0 0] 105)
 have HB0:=hJ hb0
 have HL0:=hJ hl0
 have hs0:=hl0.size
 clear hb0 hl0
 go_upto_region 5 with fail
 generalize World.alloc w1 _=w2 at*
 go_upto_region 6 with (go_at_call 63;refine(Tryz.Builder_WriteByte w1.heap.size w1.heap.size [] 61 _ HB0.out (by decide) hs0).mono ?_;rintro e w3 ⟨rfl,hb3,hl3⟩)
 have HR0:=hJ (show Lib.IsBuilder 105 5 w1.heap.size w1.heap.size (Lib.byteCells (61::al9 [])) w3∧Below w1.heap.size w1 w3 from⟨.inr hb3,HL0.out.trans hl3⟩)
 clear HB0 HL0 hs0 hb3 hl3
 go_wp2_with fail
 go_loopw [7,8,20] (fun _ _ i wr=> ∃j:Nat,j≤n∧i= .int .i64 (j:Nat)∧Lib.IsBuilder 105 5 w1.heap.size w1.heap.size (Lib.byteCells (61::al9 (vs.take j))) wr∧Below w1.heap.size w1 wr) (fun _ _ i _=>n - (intOf i).toNat)
 case atStart=>exact⟨0,Nat.zero_le _,rfl,HR0.out⟩
 case round=>
  clear HR0
  obtain⟨j,hj,rfl,hb,hl⟩:=hrel
  by_cases hjn:j<n
  ·have hj':j<vs.length:=by rw [HN.out];exact hjn
   obtain⟨g,rfl,hg,d0⟩:=HAT.out j hj'
   have hxs:=HSM.out _ (List.getElem_mem hj')
   have hvj:=List.take_succ_eq_append_getElem hj'
   obtain⟨x,hx⟩: ∃x,vs[j]=x:=⟨_,rfl⟩
   rw [hx] at d0 hxs hvj
   rw [←hl.cell hg] at d0
   have HV:=hJ (show al9 (vs.take (j+1))=al9 (vs.take j)++ak0 x by rw [hvj,aI0])
   have HLN:=hJ (show(al9 (vs.take j)).length≤5*1048576 by rw [aL8,List.length_take];omega)
   have HRB:=hJ (show Lib.IsBuilder 105 5 w1.heap.size w1.heap.size (Lib.byteCells (61::(al9 (vs.take j)++(ak0 x).take 0))) wr∧Below w1.heap.size w1 wr from⟨by rw [List.take_zero,List.append_nil];exact hb,hl⟩)
   clear hvj hx hb hl
   generalize al9 (vs.take j)=us at*
   go_wp2_with fail
   go_loopw [8] (fun k wi=> ∃m:Nat,m≤4∧k= .int .i64 (12 - 4*(m:Int))∧Lib.IsBuilder 105 5 w1.heap.size w1.heap.size (Lib.byteCells (61::(us++(ak0 x).take m))) wi∧Below w1.heap.size w1 wi) (fun k _=>(intOf k+4).toNat)
   case atStart=>exact⟨0,by decide,rfl,HRB.out⟩
   case round=>
    clear HRB
    obtain⟨m,hm,rfl,hb,hl⟩:=hrel
    obtain rfl|rfl|rfl|rfl|rfl:m=0∨m=1∨m=2∨m=3∨m=4:=by omega
    ·rw [show (12 - 4*((0:Nat):Int))=12 from rfl]
     have e1:bits .and .i64 ((x:Int) / 4096) 15=((x / 4096 % 16:Nat):Int):=by rw [show (x:Int) / 4096=((x / 4096:Nat):Int) by omega];exact aM2 _ (by omega)
     have HC:=hJ (show(ak0 x)[0]? =some (hexG (x / 4096 % 16)) from rfl)
     obtain⟨d,hd⟩: ∃d,x / 4096 % 16=d:=⟨_,rfl⟩
     rw [hd] at e1 HC
     have hd16:d<16:=by omega
     have hlen:(Lib.byteCells (61::(us++(ak0 x).take 0))).length+1≤140737488355328:=by
      have h1:=HLN.out
      have h2:((ak0 x).take 0).length≤5:=by rw [List.length_take];exact Nat.le_trans (Nat.min_le_right _ _) (Nat.le_refl _)
      rw [Lib.byteCells_length,List.length_cons,List.length_append]
      omega
     have HW:=hJ (fun c=>Tryz.Builder_WriteByte w1.heap.size w1.heap.size _ c wr hb hlen hl.size)
     have HL:=hJ hl
     clear hd hb hl hlen
     go_wp2_with (go_at_call 63;refine(HW.out _).mono ?_;rintro e w4 ⟨rfl,hb4,hl4⟩)
     have hb5:Lib.BuilderAt 105 5 w1.heap.size w1.heap.size (.pointer (some ⟨w1.heap.size,0,none⟩)) (Lib.byteCells (61::(us++(ak0 x).take 0))++ [.int .u8 ((hexG d).toNat:Nat)]) w4:=by
      obtain⟨h9,h8⟩:=aN4 d hd16
      rw [←h8]
      exact hb4
     rw [ar7 HC.out] at hb5
     go_roundw
     case rel=>exact⟨1,by decide,by first|rfl|go_num,.inr hb5,HL.out.trans hl4⟩
     case measure=>simp [intOf]
    ·rw [show (12 - 4*((1:Nat):Int))=8 from rfl]
     have e1:bits .and .i64 ((x:Int) / 256) 15=((x / 256 % 16:Nat):Int):=by rw [show (x:Int) / 256=((x / 256:Nat):Int) by omega];exact aM2 _ (by omega)
     have HC:=hJ (show(ak0 x)[1]? =some (hexG (x / 256 % 16)) from rfl)
     obtain⟨d,hd⟩: ∃d,x / 256 % 16=d:=⟨_,rfl⟩
     rw [hd] at e1 HC
     have hd16:d<16:=by omega
     have hlen:(Lib.byteCells (61::(us++(ak0 x).take 1))).length+1≤140737488355328:=by
      have h1:=HLN.out
      have h2:((ak0 x).take 1).length≤5:=by rw [List.length_take];exact Nat.le_trans (Nat.min_le_right _ _) (Nat.le_refl _)
      rw [Lib.byteCells_length,List.length_cons,List.length_append]
      omega
     have HW:=hJ (fun c=>Tryz.Builder_WriteByte w1.heap.size w1.heap.size _ c wr hb hlen hl.size)
     have HL:=hJ hl
     clear hd hb hl hlen
     go_wp2_with (go_at_call 63;refine(HW.out _).mono ?_;rintro e w4 ⟨rfl,hb4,hl4⟩)
     have hb5:Lib.BuilderAt 105 5 w1.heap.size w1.heap.size (.pointer (some ⟨w1.heap.size,0,none⟩)) (Lib.byteCells (61::(us++(ak0 x).take 1))++ [.int .u8 ((hexG d).toNat:Nat)]) w4:=by
      obtain⟨h9,h8⟩:=aN4 d hd16
      rw [←h8]
      exact hb4
     rw [ar7 HC.out] at hb5
     go_roundw
     case rel=>exact⟨2,by decide,by first|rfl|go_num,.inr hb5,HL.out.trans hl4⟩
     case measure=>simp [intOf]
    ·rw [show (12 - 4*((2:Nat):Int))=4 from rfl]
     have e1:bits .and .i64 ((x:Int) / 16) 15=((x / 16 % 16:Nat):Int):=by rw [show (x:Int) / 16=((x / 16:Nat):Int) by omega];exact aM2 _ (by omega)
     have HC:=hJ (show(ak0 x)[2]? =some (hexG (x / 16 % 16)) from rfl)
     obtain⟨d,hd⟩: ∃d,x / 16 % 16=d:=⟨_,rfl⟩
     rw [hd] at e1 HC
     have hd16:d<16:=by omega
     have hlen:(Lib.byteCells (61::(us++(ak0 x).take 2))).length+1≤140737488355328:=by
      have h1:=HLN.out
      have h2:((ak0 x).take 2).length≤5:=by rw [List.length_take];exact Nat.le_trans (Nat.min_le_right _ _) (Nat.le_refl _)
      rw [Lib.byteCells_length,List.length_cons,List.length_append]
      omega
     have HW:=hJ (fun c=>Tryz.Builder_WriteByte w1.heap.size w1.heap.size _ c wr hb hlen hl.size)
     have HL:=hJ hl
     clear hd hb hl hlen
     go_wp2_with (go_at_call 63;refine(HW.out _).mono ?_;rintro e w4 ⟨rfl,hb4,hl4⟩)
     have hb5:Lib.BuilderAt 105 5 w1.heap.size w1.heap.size (.pointer (some ⟨w1.heap.size,0,none⟩)) (Lib.byteCells (61::(us++(ak0 x).take 2))++ [.int .u8 ((hexG d).toNat:Nat)]) w4:=by
      obtain⟨h9,h8⟩:=aN4 d hd16
      rw [←h8]
      exact hb4
     rw [ar7 HC.out] at hb5
     go_roundw
     case rel=>exact⟨3,by decide,by first|rfl|go_num,.inr hb5,HL.out.trans hl4⟩
     case measure=>simp [intOf]
    ·rw [show (12 - 4*((3:Nat):Int))=0 from rfl]
     have e1:bits .and .i64 ((x:Int)) 15=((x % 16:Nat):Int):=aM2 _ (by omega)
     have HC:=hJ (show(ak0 x)[3]? =some (hexG (x % 16)) from rfl)
     obtain⟨d,hd⟩: ∃d,x % 16=d:=⟨_,rfl⟩
     rw [hd] at e1 HC
     have hd16:d<16:=by omega
     have hlen:(Lib.byteCells (61::(us++(ak0 x).take 3))).length+1≤140737488355328:=by
      have h1:=HLN.out
      have h2:((ak0 x).take 3).length≤5:=by rw [List.length_take];exact Nat.le_trans (Nat.min_le_right _ _) (Nat.le_refl _)
      rw [Lib.byteCells_length,List.length_cons,List.length_append]
      omega
     have HW:=hJ (fun c=>Tryz.Builder_WriteByte w1.heap.size w1.heap.size _ c wr hb hlen hl.size)
     have HL:=hJ hl
     clear hd hb hl hlen
     go_wp2_with (go_at_call 63;refine(HW.out _).mono ?_;rintro e w4 ⟨rfl,hb4,hl4⟩)
     have hb5:Lib.BuilderAt 105 5 w1.heap.size w1.heap.size (.pointer (some ⟨w1.heap.size,0,none⟩)) (Lib.byteCells (61::(us++(ak0 x).take 3))++ [.int .u8 ((hexG d).toNat:Nat)]) w4:=by
      obtain⟨h9,h8⟩:=aN4 d hd16
      rw [←h8]
      exact hb4
     rw [ar7 HC.out] at hb5
     go_roundw
     case rel=>exact⟨4,by decide,by first|rfl|go_num,.inr hb5,HL.out.trans hl4⟩
     case measure=>simp [intOf]
    ·rw [show (12 - 4*((4:Nat):Int))= -4 from rfl]
     have hlen:(Lib.byteCells (61::(us++(ak0 x).take 4))).length+1≤140737488355328:=by
      have h1:=HLN.out
      have h2:((ak0 x).take 4).length≤5:=by rw [List.length_take];exact Nat.le_trans (Nat.min_le_right _ _) (Nat.le_refl _)
      rw [Lib.byteCells_length,List.length_cons,List.length_append]
      omega
     have HW:=hJ (Tryz.Builder_WriteByte w1.heap.size w1.heap.size _ 44 wr hb hlen hl.size)
     have HL:=hJ hl
     clear hb hl hlen
     go_wp2_with (go_at_call 63;refine HW.out.mono ?_;rintro e w4 ⟨rfl,hb4,hl4⟩)
     have hb5:=hb4
     rw [show (Value.int .u8 44)= .int .u8 ((44:UInt8).toNat:Int) from rfl,ar7 (show(ak0 x)[4]? =some 44 from rfl)] at hb5
     go_roundw
     case rel=>exact⟨j+1,by omega,by go_num,.inr (by rw [HV.out];exact hb5),HL.out.trans hl4⟩
     case measure=>simp [intOf];omega
  ·have hjn2:j=n:=by omega
   subst hjn2
   rw [show vs.take j=vs by rw [List.take_of_length_le (by rw [HN.out];exact Nat.le_refl _)]] at hb
   have HS:=hJ (Tryz.Builder_String_any w1.heap.size w1.heap.size _ wr hb hl.size)
   have HL:=hJ hl
   clear hb hl
   go_wp2_with (go_at_call 64;refine HS.out.mono ?_;rintro e w4 ⟨rfl,hl4⟩)
   go_ret
   exact⟨rfl,(HB.out.trans (HL.out.mono HB.out.size)).trans (hl4.mono HB.out.size)⟩
end
section
open Go.RowKit
theorem bq7 (w:World) (g o:Nat) (n:Nd) (b:Option Addr) (cap:Nat) (hc: ∀i,i<5→w.cell? ⟨g,o+i,none⟩=(aa7 n.kind n.text b n.kids.length cap n.from' n.till)[i]?):
  Calls Tryz.prog 39 #[.pointer (some ⟨g,o,none⟩)] w fun e w'=>e= .returned (.bool (aR8 n))∧w'=w:=by
 have d0:w.cell? ⟨g,o,none⟩=some (.int .i64 n.kind):=hc 0 (by decide)
 clear hc
 unfold aR8
 generalize n.kind=k at*
 go_enter Tryz.func39,Tryz.ntmps39
 go_wp2
 go_ret
 refine⟨?_,rfl⟩
 by_cases h:k=59<;>simp [h]
def bu7 (n:Nd):Bool:=(n.kind !=54)|| !n.text.toList.isEmpty
theorem bq8 (w:World) (g o:Nat) (n:Nd) (b:Option Addr) (cap:Nat) (hc: ∀i,i<5→w.cell? ⟨g,o+i,none⟩=(aa7 n.kind n.text b n.kids.length cap n.from' n.till)[i]?):
  Calls Tryz.prog 41 #[.pointer (some ⟨g,o,none⟩)] w fun e w'=>e= .returned (.bool (bu7 n))∧w'=w:=by
 have d0:w.cell? ⟨g,o,none⟩=some (.int .i64 n.kind):=hc 0 (by decide)
 have d1:w.cell? ⟨g,o+1,none⟩=some (.string n.text):=hc 1 (by decide)
 clear hc
 unfold bu7
 generalize n.kind=k at*
 generalize n.text=t at*
 go_enter Tryz.func41,Tryz.ntmps41
 go_wp2
 all_goals
  go_ret
  refine⟨?_,rfl⟩
  simp_all
theorem bd8 {c:UInt8} {r:List UInt8} : ∀l:List UInt8,c ∉ l→Lib.index l (c::r)= -1
 | [],_=>rfl
 |b::l,h=>by
  have h1:(c==b)=false:=beq_eq_false_iff_ne.2 (fun e=>h (e▸ .head _))
  have h2:=bd8 (r:=r) l (fun e=>h (.tail _ e))
  rw [Lib.index,if_neg (by rw [List.isPrefixOf,h1];simp),if_pos (by rw [h2];rfl)]
theorem br2 (n:Nd):Nd.mk n.kind n.text n.kids n.from' n.till=n:=by cases n;rfl
theorem bN1 (t old new:ByteArray) (c:UInt8) (r:List UInt8) (w:World) (ho:old.data.toList=c::r) (ht:c ∉ t.data.toList) (hs:t.size≤1048576) (hM:ar0 w):
  Calls Tryz.prog 35 #[.string t,.string old,.string new] w fun e w'=>e= .returned (.string t)∧Below w.heap.size w w':=by
 obtain⟨m,hm⟩:=hM
 have hi:Lib.index t.data.toList old.data.toList= -1:=by rw [ho];exact bd8 _ ht
 have hc:Lib.countB t old=0:=Lib.countB_miss t old hi
 have h1:1≤old.size:=by rw [←ofl old,ho];simp
 refine(Tryz.strings_ReplaceAll t old new m w (by omega) hm h1 (by rw [hc];omega)).mono ?_
 rintro e w' ⟨rfl,hb⟩
 refine⟨?_,hb⟩
 have hk: ∀k,Lib.replaceK old.data.toList new.data.toList k t.data.toList=t.data.toList:=by
  intro k
  cases k with
  |zero=>rfl
  |succ k=>rw [Lib.replaceK,if_pos (by rw [hi];rfl)]
 unfold Lib.replaceAll Lib.replace
 split
 ·rfl
 ·rw [hk]
theorem bA7 (w0:World) (hx:Lx w0) (n:Nd):okC n=true→∀(g o:Nat) (F:Nat→Prop) (w:World) (c:Bool),SpC w n g o F→¬F g→(∀x,F x→w0.heap.size≤x∧x<w.heap.size)→w0.heap.size≤g→g<w.heap.size→Below w0.heap.size w0 w→
  Calls Tryz.prog 20 #[.pointer (some ⟨g,o,none⟩),.bool c] w fun e w'=>e= .returned (.tuple #[])∧Md w F g o w' (canN n):=by
 induction n using Nd.ind with
 |h n ih=>
  intro hok g o F w c hs hg hF hgb hgl hbw
  rw [bG3,Bool.and_eq_true,Bool.and_eq_true,Bool.and_eq_true,decide_eq_true_eq,List.all_eq_true] at hok
  obtain⟨⟨⟨hk,ht⟩,hl⟩,hkids⟩:=hok
  have HIH:=hJ (fun k hk=>ih k hk (hkids k hk))
  have HKS:=hJ hkids
  have HS:=hJ hs
  have HX:=hJ hx
  clear ih hkids hs hx
  go_enter Tryz.func20,Tryz.ntmps20
  go_upto_if 8 with fail
  go_cut [4] (fun _ wx=>w=wx)
  case first=>
   cases c
   all_goals
    go_wp2_with fail
    go_meet
    rfl
  case rest=>
   subst hcut
   obtain⟨b,cap,d0,d1,d2,d3,d4,f0,f1,f2,f3,f4,hcap,_⟩:=HS.out.facts
   obtain⟨K,hK⟩: ∃K,n.kind=K:=⟨_,rfl⟩
   obtain⟨T,hT⟩: ∃T,n.text=T:=⟨_,rfl⟩
   rw [hK] at d0 hk ht
   rw [hT] at d1 ht
   have HK:=hJ hK
   have HT:=hJ hT
   have HM0:=hJ (Md.refl HS.out (fun x hx=>(hF x hx).2))
   have HXW:=hJ (HX.out.bel hbw)
   have HOK:=hJ hk
   have HOT:=hJ ht
   clear hK hT hk ht
   go_upto_block 0 with fail
   go_cut [4,5,6] from 13 to 104 (fun _ _ _ wx=>Md w F g o wx (swN n))
   case first=>
    have hok:=HOK.out
    unfold okK at hok
    simp only [Bool.and_eq_true,Bool.not_eq_true',decide_eq_false_iff_not] at hok
    obtain⟨⟨⟨⟨n13,n15⟩,n16⟩,n44⟩,n54⟩:=hok
    have hot:=HOT.out
    unfold okT at hot
    rw [Bool.and_eq_true,Bool.and_eq_true,decide_eq_true_eq] at hot
    obtain⟨⟨ht4,ht9⟩,hts⟩:=hot
    have HSW:=hJ (show swN n= .mk K (canT K T) (drpN K n.kids) n.from' n.till by unfold swN;rw [HK.out,HT.out])
    by_cases h9:K=9∨K=51∨K=78
    ·have h13:(13:UInt8) ∉ T.data.toList:=by
      rw [decide_eq_true h9] at ht9
      simp at ht9
      simpa using ht9
     have HRA:=hJ (fun(old:ByteArray) (r:List UInt8) (W:World) (ho:old.data.toList=13::r) (hb:Below w.heap.size w W)=>bN1 T old ⟨#[10]⟩ 13 r W ho h13 hts (HXW.out.max.below hb))
     have HB:=hJ (Below.refl w.heap.size w)
     have HS2:=hJ (show swN n= .mk n.kind T n.kids n.from' n.till by rw [HSW.out,HK.out];unfold canT drpN;rw [if_neg (by omega),if_neg (by omega),if_neg (by omega)])
     clear ht4 ht9 h13
     rcases h9 with rfl|rfl|rfl
     all_goals
      go_wp2_with (go_at_call 35;refine(HRA.out _ _ _ rfl HB.out).mono ?_;rintro e w2 ⟨rfl,hb2⟩;replace HB:=hJ (aa2 HB.out hb2);clear hb2;have e1:=(World.cell?_of_block (a:=⟨g,o+1,none⟩) (HB.out.block g hgl)).trans d1;have f11:=(World.frozen?_of_block (a:=⟨g,o+1,none⟩) (HB.out.block g hgl)).trans f1)
      go_meet
      rw [HS2.out]
      exact(HM0.out.bel hgl HB.out).text hg hgl T
    by_cases h4:K=4
    ·have hsm:(aL7 T).isSome=true:=by
      rw [decide_eq_true h4] at ht4
      simpa using ht4
     have HS2:=hJ (show swN n= .mk n.kind (bv5 T) n.kids n.from' n.till by rw [HSW.out,HK.out];unfold canT drpN;rw [if_pos h4,if_neg (by omega)])
     have HC:=hJ (bn3 T w hts hsm HXW.out)
     clear ht4 ht9 hsm h9
     subst h4
     go_wp2_with (go_at_call 36;refine HC.out.mono ?_;rintro e w2 ⟨rfl,hb2⟩;have HB:=hJ hb2;clear hb2;have e1:=(World.cell?_of_block (a:=⟨g,o+1,none⟩) (HB.out.block g hgl)).trans d1;have f11:=(World.frozen?_of_block (a:=⟨g,o+1,none⟩) (HB.out.block g hgl)).trans f1)
     go_meet
     rw [HS2.out]
     exact(HM0.out.bel hgl HB.out).text hg hgl _
    by_cases h3:K=3
    ·have HS2:=hJ (show swN n= .mk n.kind (numC T) n.kids n.from' n.till by rw [HSW.out,HK.out];unfold canT drpN;rw [if_neg h4,if_pos h3,if_neg (by omega)])
     have HC:=hJ (bm8 T w (by omega) HXW.out.max)
     clear ht4 ht9 h9 h4
     subst h3
     by_cases hc:(aA8 T).2=0
     ·have HN:=hJ (show numC T=⟨(aA8 T).1.toArray⟩ by unfold numC;rw [if_pos hc])
      rw [hc] at HC
      clear hc
      go_wp2_with (go_at_call 37;refine HC.out.mono ?_;rintro e w2 ⟨rfl,hb2⟩;have HB:=hJ hb2;clear hb2;have e1:=(World.cell?_of_block (a:=⟨g,o+1,none⟩) (HB.out.block g hgl)).trans d1;have f11:=(World.frozen?_of_block (a:=⟨g,o+1,none⟩) (HB.out.block g hgl)).trans f1)
      go_meet
      rw [HS2.out,HN.out]
      exact(HM0.out.bel hgl HB.out).text hg hgl _
     ·have HN:=hJ (show numC T=T by unfold numC;rw [if_neg hc])
      have hcb:((aA8 T).2==0)=false:=by rw [beq_eq_false_iff_ne];exact hc
      clear hc
      go_wp2_with (go_at_call 37;refine HC.out.mono ?_;rintro e w2 ⟨rfl,hb2⟩;have HB:=hJ hb2;clear hb2)
      go_meet
      rw [HS2.out,HN.out,←HT.out,br2]
      exact HM0.out.bel hgl HB.out
    by_cases h86:K=86∨K=58
    ·have HS2:=hJ (show swN n= .mk n.kind n.text (n.kids.filter aR8) n.from' n.till by rw [HSW.out,HK.out,HT.out];unfold canT drpN;rw [if_neg h4,if_neg h3,if_pos h86])
     have HC:=hJ (bd9 39 aR8 (fun _ _=>by kernel_rfl) bq7 n g o F w HS.out hg (fun x hx=>(hF x hx).2) hgl hl)
     clear ht4 ht9 h9 h4 h3
     rcases h86 with rfl|rfl
     all_goals
      go_wp2_with (go_at_call 38;refine HC.out.mono ?_;rintro e w2 ⟨rfl,hkp,hsp⟩)
      go_meet
      rw [HS2.out]
      exact⟨_,hkp,hsp,fun x hx=>⟨hx.imp id (fun h=>h.1),by rcases hx with hx|hx;exact Nat.lt_of_lt_of_le (hF x hx).2 hkp.size;exact hx.2⟩⟩
    ·have HS2:=hJ (show swN n=n by rw [HSW.out];unfold canT drpN;rw [if_neg h4,if_neg h3,if_neg h86,←HK.out,←HT.out,br2])
     have b1:(K==13)=false:=beq_eq_false_iff_ne.2 n13
     have b2:(K==44)=false:=beq_eq_false_iff_ne.2 n44
     have b3:(K==15)=false:=beq_eq_false_iff_ne.2 n15
     have b4:(K==16)=false:=beq_eq_false_iff_ne.2 n16
     have b5:(K==54)=false:=beq_eq_false_iff_ne.2 n54
     have b6:(K==9)=false:=beq_eq_false_iff_ne.2 (by omega)
     have b7:(K==51)=false:=beq_eq_false_iff_ne.2 (by omega)
     have b8:(K==78)=false:=beq_eq_false_iff_ne.2 (by omega)
     have b9:(K==4)=false:=beq_eq_false_iff_ne.2 h4
     have b10:(K==3)=false:=beq_eq_false_iff_ne.2 h3
     have b11:(K==86)=false:=beq_eq_false_iff_ne.2 (by omega)
     have b12:(K==58)=false:=beq_eq_false_iff_ne.2 (by omega)
     clear ht4 ht9 h9 h4 h3 h86 n13 n15 n16 n44 n54
     go_wp2_with fail
     go_meet
     rw [HS2.out]
     exact HM0.out
   case rest=>
    have HC0:=hJ hcut
    obtain⟨m,hm⟩: ∃m,(swN n).kids.length=m:=⟨_,rfl⟩
    have hml:m≤4194304:=by
     rw [←hm]
     refine Nat.le_trans ?_ hl
     show(drpN n.kind n.kids).length≤_
     unfold drpN
     split
     ·exact List.length_filter_le _ _
     ·exact Nat.le_refl _
    have HMM:=hJ hm
    have HKC:=hJ (show∀k ∈ (swN n).kids,k ∈ n.kids from fun k hk=>by
     change k ∈ drpN n.kind n.kids at hk
     unfold drpN at hk
     split at hk
     ·exact(List.mem_filter.1 hk).1
     ·exact hk)
    have HEQ:=hJ (show canN n= .mk (swN n).kind (swN n).text ((swN n).kids.map canN) (swN n).from' (swN n).till from bI5 n)
    have HKD:=hJ (show(swN n).kind=K from HK.out)
    clear d0 d1 d2 d3 d4 f0 f1 f2 f3 f4 HM0 HXW HOK HOT HT HK HS hcut hm
    generalize swN n=n1 at*
    obtain⟨F1,hs1,_,_,_,_⟩:=HC0.out.at' hg hgl (fun x hx=>(hF x hx).1) (Nat.le_trans hgb (Nat.le_of_lt hgl))
    obtain⟨b1,cap1,_,_,e2,_,_,_,_,_,_,_,hcap1,_⟩:=hs1.facts
    rw [HMM.out] at e2
    clear hs1
    go_wp2_with fail
    go_loopw [7,110] (fun _ i wr=> ∃j:Nat,j≤m∧i= .int .i64 (j:Nat)∧Md w F g o wr (midN n1 j)) (fun _ i _=>m - (intOf i).toNat)
    case atStart=>exact⟨0,Nat.zero_le _,rfl,by rw [bq9];exact HC0.out⟩
    case round=>
     clear HC0 e2
     obtain⟨j,hj,rfl,hmd⟩:=hrel
     have HMD:=hJ hmd
     by_cases hjm:j<m
     ·have hj':j<n1.kids.length:=by rw [HMM.out];exact hjm
      obtain⟨g2,F2,cap2,k1,k2,k3,k4,k5,k6,k7⟩:=hmd.kid hj' hg hgl (fun x hx=>(hF x hx).1) (Nat.le_trans hgb (Nat.le_of_lt hgl))
      obtain⟨F3,hs3,_,_,_,_⟩:=hmd.at' hg hgl (fun x hx=>(hF x hx).1) (Nat.le_trans hgb (Nat.le_of_lt hgl))
      have d0:wr.cell? ⟨g,o,none⟩=some (.int .i64 K):=by
       obtain⟨_,_,h,_⟩:=hs3.facts
       rw [←HKD.out]
       exact h
      have hcl:m≤cap2:=by
       obtain⟨_,cap,_,_,h,_,_,_,_,_,_,_,hc,_⟩:=hs3.facts
       rw [k1] at h
       injection h with h
       injection h with _ _ h
       rw [aN7 n1 j (Nat.le_of_lt hj'),HMM.out] at hc
       omega
      rw [HMM.out] at k1
      have HCALL:=hJ (fun(W:World) (hb:Below wr.heap.size wr W) (c:Bool)=>show Calls Tryz.prog 20 #[.pointer (some ⟨g2,j*5,none⟩),.bool c] W fun e w2=>e= .returned (.tuple #[])∧Md w F g o w2 (midN n1 (j+1)) from by
       have hgw:g<wr.heap.size:=by
        obtain⟨_,h,_⟩:=hmd
        exact Nat.lt_of_lt_of_le hgl h.size
       have hmW:=hmd.bel hgl hb
       obtain⟨g3,F4,cap4,q1,q2,q3,q4,q5,q6,q7⟩:=hmW.kid hj' hg hgl (fun x hx=>(hF x hx).1) (Nat.le_trans hgb (Nat.le_of_lt hgl))
       rw [World.cell?_of_block (hb.block g hgw),k1] at q1
       obtain rfl:g2=g3:=by
        injection q1 with q1
        injection q1 with q1
        injection q1 with q1
        injection q1
       refine(HIH.out _ (HKC.out _ (List.getElem_mem hj')) g2 (j*5) F4 W c q6 q2 q3 q4 q5 (hbw.trans (hmW.below hgb (fun x hx=>(hF x hx).1) (Nat.le_trans hgb (Nat.le_of_lt hgl))))).mono ?_
       rintro e w2 ⟨rfl,h⟩
       exact⟨rfl,q7 w2 h⟩)
      clear k2 k3 k4 k5 k6 k7 hs3 hmd
      go_upto_region 30 with fail
      go_region_law (go_simp;(with_reducible refine(HCALL.out _ (Below.drew (Below.refl _ _)) _).mono ?_);rintro e w2 ⟨rfl,hmd2⟩)
      all_goals
       go_wp2_with fail
       go_roundw
       case rel=>exact⟨j+1,hjm,by go_num,hmd2⟩
       case measure=>simp [intOf];omega
     ·have hjm2:j=m:=by omega
      subst hjm2
      have e:midN n1 j=canN n:=by rw [HEQ.out,←HMM.out,bA9]
      rw [e] at hmd
      obtain⟨F3,hs3,hg3,hF3,hgl3,hnx⟩:=hmd.at' hg hgl (fun x hx=>(hF x hx).1) (Nat.le_trans hgb (Nat.le_of_lt hgl))
      have hkl:(canN n).kids.length≤4194304:=by
       rw [HEQ.out]
       show(n1.kids.map canN).length≤_
       rw [List.length_map,HMM.out]
       exact hml
      have hfil:(canN n).kids.filter bu7=(canN n).kids:=by
       rw [List.filter_eq_self]
       intro k hk
       rw [HEQ.out] at hk
       obtain⟨k0,hk0,rfl⟩:=List.mem_map.1 hk
       have h1:=HKS.out k0 (HKC.out k0 hk0)
       rw [bG3,Bool.and_eq_true,Bool.and_eq_true,Bool.and_eq_true] at h1
       have h2:=h1.1.1.1
       unfold okK at h2
       simp only [Bool.and_eq_true,Bool.not_eq_true',decide_eq_false_iff_not] at h2
       unfold bu7
       rw [aQ3]
       simp [h2.2]
      have HC:=hJ (bd9 41 bu7 (fun _ _=>by kernel_rfl) bq8 (canN n) g o F3 wr hs3 hg3 (fun x hx=>(hF3 x hx).2) hgl3 hkl)
      rw [hfil,br2] at HC
      clear hs3 hmd HMD e hkl hfil
      go_wp2_with (go_at_call 38;refine HC.out.mono ?_;rintro e w2 ⟨rfl,hkp,hsp⟩)
      go_end0
      exact⟨rfl,hnx ⟨_,hkp,hsp,fun x hx=>⟨hx.imp id (fun h=>h.1),by rcases hx with hx|hx;exact Nat.lt_of_lt_of_le (hF3 x hx).2 hkp.size;exact hx.2⟩⟩⟩
end
section
open Go.RowKit
theorem SpC.box {w:World} {m:Nd} {b:Option Addr} {cap r:Nat} {F:Nat→Prop} {T:TypeId} (h:w.heap[r]? =some (.cells #[.int .i64 m.kind,.string m.text,.slice b m.kids.length cap,.int .i64 m.from',.int .i64 m.till] T (0,0))) (hc:m.kids.length≤cap) (hx:SpX w m.kids b F):SpC w m r 0 F:=by
 rw [ar3]
 refine⟨fun i _=>frozen_of_row w r _ _ _ h,b,cap,fun i hi=> ?_,hc,hx⟩
 rw [cell_of_row _ _ _ _ _ _ h,Nat.zero_add]
 rfl
theorem aP5 (n:Nd) (v:Value) (w:World) (L B:Nat) (hv:NdV w L B n v) (hB:B≤w.heap.size) (hsz:aa0 n≤4194304) (hok:okC (ao3 n)=true) (hx:Lx w):
  Calls Tryz.prog 11 #[v] w fun e w'=> ∃u,e= .returned u∧NdV w' w.heap.size w'.heap.size (canN (ao3 n)) u∧Below w.heap.size w w':=by
 obtain⟨b,cap,rfl,hcap,hrow⟩:=hv
 obtain⟨m,hm⟩: ∃m,ao3 n=m:=⟨_,rfl⟩
 rw [hm] at hok⊢
 obtain⟨k,hk⟩: ∃k,canN m=k:=⟨_,rfl⟩
 rw [hk]
 unfold aa7 at*
 have hba:=(af0 w (.cells #[.int .i64 n.kind,.string n.text,.slice b n.kids.length cap,.int .i64 n.from',.int .i64 n.till] 28)).alloc (by simp) (.cells #[.int .i64 0,.string ⟨#[]⟩,.slice none 0 0,.int .i64 0,.int .i64 0] 28)
 have hbx:=(aE4 w n b cap).bel (af0 _ (.cells #[.int .i64 0,.string ⟨#[]⟩,.slice none 0 0,.int .i64 0,.int .i64 0] 28)) (by simp)
 have hbq:aa6 ((w.alloc (.cells #[.int .i64 n.kind,.string n.text,.slice b n.kids.length cap,.int .i64 n.from',.int .i64 n.till] 28)).alloc (.cells #[.int .i64 0,.string ⟨#[]⟩,.slice none 0 0,.int .i64 0,.int .i64 0] 28)) (w.heap.size+1) 0 ⟨#[]⟩ (.slice none 0 0) 0 0:=by
  have:=heap_alloc_new (w.alloc (.cells #[.int .i64 n.kind,.string n.text,.slice b n.kids.length cap,.int .i64 n.from',.int .i64 n.till] 28)) (.cells #[.int .i64 0,.string ⟨#[]⟩,.slice none 0 0,.int .i64 0,.int .i64 0] 28)
  rw [World.size_alloc] at this
  exact this
 have HR:=hJ hrow
 have HX:=hJ hx
 clear hrow hx
 go_enter Tryz.func11,Tryz.ntmps11
 go_upto_region 1 with fail
 generalize World.alloc (World.alloc w _) _=w1 at*
 have HB:=hJ hba
 have HQ:=hJ hbq
 have hsz1:=hba.size
 have hN:=bl4 n (.agg #[.int .i64 n.kind,.string n.text,.slice b n.kids.length cap,.int .i64 n.from',.int .i64 n.till]) w1 L B ⟨b,cap,rfl,hcap,ae8 HR.out (hba.mono hB)⟩ (Nat.le_trans hB hsz1) hsz
 rw [hm] at hN
 have HN:=hJ hN
 clear hN hm
 obtain⟨z0,z1,z2,z3,z4,_⟩:=hbx.facts
 go_upto_region 2 with (go_at_call 19;refine HN.out.mono ?_;rintro e w2 ⟨u,rfl,hu,hb2⟩;have HB2:=hJ hb2;have HU:=hJ hu;obtain⟨b4,cap4,rfl,_⟩:=hu;unfold aa7 at*)
 clear hba hbx hbq z0 z1 z2 z3 z4
 obtain⟨b5,cap5,e5,hc5,hx5⟩:=HU.out
 unfold aa7 at e5
 obtain⟨rfl,rfl⟩:b4=b5∧cap4=cap5:=by
  injection e5 with e5
  injection e5 with e5
  simp at e5
  exact e5
 have hal:=af0 w2 (.cells #[.int .i64 m.kind,.string m.text,.slice b4 m.kids.length cap4,.int .i64 m.from',.int .i64 m.till] 28)
 have hsp:SpC (w2.alloc (.cells #[.int .i64 m.kind,.string m.text,.slice b4 m.kids.length cap4,.int .i64 m.from',.int .i64 m.till] 28)) m w2.heap.size 0 (fun y=>w1.heap.size≤y∧y<w2.heap.size):=
  SpC.box (heap_alloc_new _ _) hc5 (at2 (fun x hx=>hal.block x hx.2) (fun _ h=>h) hx5)
 have hb3:=aa2 (aa2 HB.out HB2.out) hal
 have HQ3:=hJ ((HQ.out.bel HB2.out).bel hal)
 have hsz2:=HB2.out.size
 have hsa:(w2.alloc (.cells #[.int .i64 m.kind,.string m.text,.slice b4 m.kids.length cap4,.int .i64 m.from',.int .i64 m.till] 28)).heap.size=w2.heap.size+1:=World.size_alloc _ _
 generalize w2.alloc (.cells #[.int .i64 m.kind,.string m.text,.slice b4 m.kids.length cap4,.int .i64 m.from',.int .i64 m.till] 28)=w3 at*
 have HB3:=hJ hb3
 have hMC:=bA7 w HX.out m hok w2.heap.size 0 _ w3 false hsp (fun h=>by omega) (fun x hx=>⟨by omega,by omega⟩) (by omega) (by omega) hb3
 rw [hk] at hMC
 have HMC:=hJ hMC
 clear hMC hk
 clear hal hb3 hsp e5 hx5 HU HN
 go_upto_region 3 with (go_at_call 20;refine HMC.out.mono ?_;rintro e w4 ⟨rfl,hmd⟩)
 obtain⟨F',hkp,hs4,hf4⟩:=hmd
 have hql:=HQ.out.lt
 have hq4:aa6 w4 (w.heap.size+1) 0 ⟨#[]⟩ (.slice none 0 0) 0 0:=(hkp.blk (w.heap.size+1) HQ3.out.lt (by omega) (fun h=>by omega)).trans HQ3.out
 have HB4:=hJ (HB3.out.trans (hkp.below (B:=w.heap.size) (by omega) (fun x hx=>by omega) (by omega)))
 have hkz:=hkp.size
 obtain⟨b6,cap6,c0,c1,c2,c3,c4,_,_,_,_,_,hc6,hx6⟩:=hs4.facts
 have HQ4:=hJ hq4
 have HX6:=hJ hx6
 obtain⟨x0,x1,x2,x3,x4,y0,y1,y2,y3,y4⟩:=aa6.facts hq4
 simp only [Nat.zero_add] at c0 c1 c2 c3 c4
 clear hq4 hx6 hs4 HMC
 go_wp2_with fail
 refine bodyPost_ret (results_nd rfl _ _ (w.heap.size+1) rfl HQ4.out.lay) rfl ?_
 refine⟨_,rfl,⟨b6,cap6,rfl,hc6,SpX.row (F:=F') (fun x hx=> ?_) (at2 (fun x hx=>lay5_block _ _ _ _ _ _ _ _ ?_) (fun _ h=>h) HX6.out)⟩,lay5_bel HB4.out (by omega) _ _ _ _ _⟩
 ·obtain⟨h1,h2⟩:=hf4 x hx
  simp only [World.size_setCell]
  omega
 ·obtain⟨h1,h2⟩:=hf4 x hx
  omega
end
end Go.Proofs.YtibpjkkgfgmkmaaGreatDoor
