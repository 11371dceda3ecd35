/- Steps (LPF LPG LPJ LPN LR). Conditions: as stated. -/
import Derived.Test.YtnobjeelihkjmaaGreatDoorZk06
import Derived.Lib.SmallJoins
set_option maxHeartbeats 16000000
set_option maxRecDepth 20000
namespace Go.Proofs.YtnobjeelihkjmaaGreatDoor
section
open Go.RowKit
def Spc (b:Nat) (w:World):Prop:= ∃w0:World,w0.heap.size≤b∧Lib.TabIs Tryz.prog w0 "strings.asciiSpace" .u8 Lib.asciiSpaceTab∧Below w0.heap.size w0 w
theorem Spc.tab {b:Nat} {w:World} (h:Spc b w):Lib.TabIs Tryz.prog w "strings.asciiSpace" .u8 Lib.asciiSpaceTab:=by
 obtain⟨w0,_,h1,h2⟩:=h
 exact Joins.tab_stays (g:=0) (by kernel_rfl) h1 h2 (Nat.le_refl _)
theorem Spc.bel {b:Nat} {w w':World} (h:Spc b w) (hb:Below b w w'):Spc b w':=by
 obtain⟨w0,h0,h1,h3⟩:=h
 exact⟨w0,h0,h1,h3.trans (hb.mono h0)⟩
theorem Spc.but {b:Nat} {w w':World} (h:Spc b w) (hl:b<w.heap.size) (hb:But b w w'):Spc b w':=h.bel (hb.below (Nat.le_refl _) (Nat.le_of_lt hl))
def aF1:ByteArray:=⟨(([62,62,62,61,32,46,46,46,32,61,61,61,32,33,61,61,32,42,42,61,32,60,60,61,32,62,62,61,32,62,62,62,32,38,38,61,32,124].append [124,61,32,63,63,61,32,60,61,32,62,61,32,61,61,32,33,61,32,42,42,32,43,43,32,45,45,32,60,60,32,62,62,32,38,38,32,124]).append ([124,32,63,63,32,63,46,32,43,61,32,45,61,32,42,61,32,37,61,32,38,61,32,124,61,32,94,61,32,61,62,32,123,32,125,32,40,32].append [41,32,91,32,93,32,46,32,59,32,44,32,60,32,62,32,43,32,45,32,42,32,37,32,38,32,124,32,94,32,33,32,126,32,63,32,58,32,61])).toArray⟩
theorem bf2:Lib.fields aF1.data.toList=aj1:=by decide+kernel
theorem bo1: ∀(j:Nat) b,aF1.data.toList[j]? =some b→b.toNat<128:=by
 have h: ∀b ∈ aF1.data.toList,b.toNat<128:=by decide+kernel
 intro j b hj
 exact h b (List.mem_of_getElem? hj)
def ar7:Obj:= .cells (aj1.map fun l=>Value.string ⟨l.toArray⟩).toArray 9
theorem bf3 (w:World) (h:Lib.TabIs Tryz.prog w "strings.asciiSpace" .u8 Lib.asciiSpaceTab):
  Calls Tryz.prog 170 #[] w fun e w'=>e= .returned (.slice (some ⟨w.heap.size,0,none⟩) 55 55)∧w'=w.alloc ar7:=by
 have hf:=Tryz.strings_Fields aF1 w (by decide+kernel) bo1 h
 rw [bf2] at hf
 have hl:aj1.length=55:=by decide+kernel
 rw [hl] at hf
 have HF:=hJ hf
 clear hf h
 unfold aF1 at HF
 go_enter Tryz.func170,Tryz.ntmps170
 go_wp2_with (go_at_call 79;refine HF.out.mono ?_;rintro e w' ⟨rfl,rfl⟩)
 go_ret
 exact⟨rfl,rfl⟩
def au6 (b:Nat) (s:ByteArray) (p:Nat) (line:Bool) (fl:Int) (w:World) (n:Nat) (e:Ending) (w':World):Prop:=
 e= .returned (.bool (decide (n≠0)))∧Tst b s w ⟨p+n,line,fl,0⟩ w'
def SlAt (w:World) (A:Nat):Prop:=w.heap[A]? =some (.cells #[.string ⟨#[47,61]⟩,.string ⟨#[47]⟩] 9 (0,0))
theorem SlAt.bel {w w':World} {A:Nat} (h:SlAt w A) (hb:Below w.heap.size w w'):SlAt w' A:=(hb.block A (Array.getElem?_eq_some_iff.1 h).1).trans h
theorem SlAt.facts {w:World} {A:Nat} (h:SlAt w A):w.cell? ⟨A,0,none⟩=some (.string ⟨#[47,61]⟩)∧w.cell? ⟨A,1,none⟩=some (.string ⟨#[47]⟩):=by
 unfold SlAt at h
 constructor<;>simp [World.cell?,h]
theorem aU0 (b:Nat) (s:ByteArray) (p:Nat) (line:Bool) (fl:Int) (w:World) (hx:RdAt w b s ⟨p,line,fl,0⟩) (hr:ae6 b w) (hs:s.size≤16777216) (hp:p≤s.size) (h47:Lib.hasPrefix (s.data.toList.drop p) [47]=true):
  Calls Tryz.prog 106 #[.pointer (some ⟨b,0,none⟩),.int .i64 1] w fun e w'=>au6 b s p line fl w (pct 1 (s.data.toList.drop p)) e w':=by
 have HK:=hJ (show Tst b s w ⟨p,line,fl,0⟩ w from⟨hx,But.refl _ _,hr,hp⟩)
 clear hx hr
 obtain⟨c0,c1,c2,c3,c4,f0,f1,f2,f3,f4⟩:=RdAt.facts HK.out.rd
 have hst0:=HK.out.bel (Below.alloc (Below.refl _ w) (Nat.le_refl _) (.cells #[.string ⟨#[47,61]⟩,.string ⟨#[47]⟩] 9))
 have hsl0:SlAt (w.alloc (.cells #[.string ⟨#[47,61]⟩,.string ⟨#[47]⟩] 9)) w.heap.size:=heap_alloc_new _ _
 go_enter Tryz.func106,Tryz.ntmps106
 go_wp2_with fail
 go_step3
 go_wp2_with fail
 clear c0 c1 c2 c3 c4 f0 f1 f2 f3 f4 HK
 go_loopw [6,13] (fun _ i wr=> ∃j:Nat,(j=0∨(j=1∧Lib.hasPrefix (s.data.toList.drop p) [47,61]=false))∧i= .int .i64 (j:Nat)∧Tst b s w ⟨p,line,fl,0⟩ wr∧SlAt wr w.heap.size) (fun _ i _=>2 - (intOf i).toNat)
 case atStart=>exact⟨0,.inl rfl,rfl,hst0,hsl0⟩
 case round=>
  clear hst0 hsl0
  obtain⟨j,hj,rfl,hst,hsl⟩:=hrel
  obtain⟨e0,e1⟩:=hsl.facts
  have HK:=hJ hst
  have HSL:=hJ hsl
  clear hst hsl
  obtain⟨c0,c1,c2,c3,c4,f0,f1,f2,f3,f4⟩:=RdAt.facts HK.out.rd
  rcases hj with rfl|⟨rfl,h2⟩
  ·cases h2:Lib.hasPrefix (s.data.toList.drop p) [47,61] with
   |true=>
    have hl:=ae1 h2
    rw [List.length_drop,ofl] at hl
    have hl1:p+2≤s.size:=by simp at hl;omega
    have HN:=hJ (show pct 1 (s.data.toList.drop p)=2 by unfold pct;rw [if_pos ⟨rfl,h2⟩])
    clear hl
    go_upto_region 6 with (go_at_call 97;refine(ad4 b s _ _ _ HK.out.rd HK.out.le).mono ?_;rintro e w9 ⟨rfl,hb⟩;clear c0 c1 c2 c3 c4 f0 f1 f2 f3 f4;replace HK:=hJ (HK.out.bel hb);replace HSL:=hJ (HSL.out.bel hb);obtain⟨e0,e1⟩:=HSL.out.facts;clear hb;obtain⟨c0,c1,c2,c3,c4,f0,f1,f2,f3,f4⟩:=RdAt.facts HK.out.rd)
    have hk1:=HK.out.setRd (y:=⟨p+2,line,fl,0⟩) 0 (.int .i64 ((p:Int)+2)) rfl hl1
    go_wp2_with fail
    try rw [Exit.noGoto_ret]
    go_ret
    unfold au6
    rw [HN.out]
    exact⟨rfl,hk1⟩
   |false=>
    go_wp2_with (go_at_call 97;refine(ad4 b s _ _ _ HK.out.rd HK.out.le).mono ?_;rintro e w9 ⟨rfl,hb⟩;clear c0 c1 c2 c3 c4 f0 f1 f2 f3 f4;replace HK:=hJ (HK.out.bel hb);replace HSL:=hJ (HSL.out.bel hb);obtain⟨e0,e1⟩:=HSL.out.facts;clear hb;obtain⟨c0,c1,c2,c3,c4,f0,f1,f2,f3,f4⟩:=RdAt.facts HK.out.rd)
    go_roundw
    case rel=>exact⟨1,.inr ⟨rfl,by first|exact h2|trivial⟩,rfl,HK.out,HSL.out⟩
    case measure=>simp [intOf]
  ·have hl:=ae1 h47
   rw [List.length_drop,ofl] at hl
   have hl1:p+1≤s.size:=by simp at hl;omega
   have HN:=hJ (show pct 1 (s.data.toList.drop p)=1 by unfold pct;rw [if_neg (by rw [h2];simp),if_pos ⟨rfl,h47⟩])
   clear hl
   go_upto_region 6 with (go_at_call 97;refine(ad4 b s _ _ _ HK.out.rd HK.out.le).mono ?_;rintro e w9 ⟨rfl,hb⟩;clear c0 c1 c2 c3 c4 f0 f1 f2 f3 f4;replace HK:=hJ (HK.out.bel hb);replace HSL:=hJ (HSL.out.bel hb);obtain⟨e0,e1⟩:=HSL.out.facts;clear hb;obtain⟨c0,c1,c2,c3,c4,f0,f1,f2,f3,f4⟩:=RdAt.facts HK.out.rd)
   have hk1:=HK.out.setRd (y:=⟨p+1,line,fl,0⟩) 0 (.int .i64 ((p:Int)+1)) rfl hl1
   go_wp2_with fail
   try rw [Exit.noGoto_ret]
   go_ret
   unfold au6
   rw [HN.out]
   exact⟨rfl,hk1⟩
theorem aP4 {l:List UInt8} (h:Lib.hasPrefix l [47]=false):Lib.hasPrefix l [47,61]=false:=by
 cases l with
 |nil=>rfl
 |cons a t=>
  have h1:((47:UInt8)==a && true)=false:=h
  show((47:UInt8)==a && _)=false
  rw [Bool.and_true] at h1
  rw [h1]
  rfl
theorem bx4 (l:List UInt8) (goal:Int) (h: ¬(goal=1∧Lib.hasPrefix l [47]=true)):pct goal l=match aj1.find? (aF0 l) with
  |some w=>w.length
  |none=>0:=by
 have h2: ¬(goal=1∧Lib.hasPrefix l [47,61]=true):=by
  rintro⟨h1,h2⟩
  apply h
  refine⟨h1,?_⟩
  cases h3:Lib.hasPrefix l [47] with
  |true=>rfl
  |false=>rw [aP4 h3] at h2;cases h2
 unfold pct
 rw [if_neg h2,if_neg h]
 cases aj1.find? (aF0 l)<;>rfl
theorem bF2: ∀w ∈ aj1,w.length≠0:=by decide+kernel
theorem bJ8 {w:World} {A:Nat} (h:w.heap[A]? =some ar7) (j:Nat) (hj:j<aj1.length):w.cell? ⟨A,j,none⟩=some (.string ⟨(aj1[j]).toArray⟩):=by
 simp only [World.cell?]
 rw [h]
 simp [ar7,hj]
theorem bo5 (b:Nat) (s:ByteArray) (p:Nat) (line:Bool) (fl:Int) (goal:Int) (w:World) (hx:RdAt w b s ⟨p,line,fl,0⟩) (hr:ae6 b w) (hS:Spc b w) (hs:s.size≤16777216) (hp:p≤s.size) (hno: ¬(goal=1∧Lib.hasPrefix (s.data.toList.drop p) [47]=true)):
  Calls Tryz.prog 106 #[.pointer (some ⟨b,0,none⟩),.int .i64 goal] w fun e w'=>au6 b s p line fl w (pct goal (s.data.toList.drop p)) e w':=by
 have HK:=hJ (show Tst b s w ⟨p,line,fl,0⟩ w from⟨hx,But.refl _ _,hr,hp⟩)
 have hbl:=hx.lt
 have HO:=hJ (bx4 (s.data.toList.drop p) goal hno)
 have HS:=hJ hS
 have HNO:=hJ hno
 clear hx hr hS hno
 generalize pct goal (s.data.toList.drop p)=O at*
 obtain⟨c0,c1,c2,c3,c4,f0,f1,f2,f3,f4⟩:=RdAt.facts HK.out.rd
 go_enter Tryz.func106,Tryz.ntmps106
 go_wp2_with fail
 go_step3
 go_upto_if 10 with fail
 go_cut [] from 11 to 31 (fun wx=>Tst b s w ⟨p,line,fl,0⟩ wx)
 case first=>
  by_cases hg1:goal=1
  ·subst hg1
   have h47:Lib.hasPrefix (s.data.toList.drop p) [47]=false:=by
    cases h:Lib.hasPrefix (s.data.toList.drop p) [47] with
    |false=>rfl
    |true=>exact absurd ⟨rfl,h⟩ HNO.out
   have h2:=aP4 h47
   have hst0:=HK.out.bel (Below.alloc (Below.refl _ w) (Nat.le_refl _) (.cells #[.string ⟨#[47,61]⟩,.string ⟨#[47]⟩] 9))
   have hsl0:SlAt (w.alloc (.cells #[.string ⟨#[47,61]⟩,.string ⟨#[47]⟩] 9)) w.heap.size:=heap_alloc_new _ _
   clear HO HNO
   go_wp2_with fail
   clear c0 c1 c2 c3 c4 f0 f1 f2 f3 f4 HK
   go_loopw [6,13] (fun _ i wr=> ∃j:Nat,(j=0∨j=1∨j=2)∧i= .int .i64 (j:Nat)∧Tst b s w ⟨p,line,fl,0⟩ wr∧SlAt wr w.heap.size) (fun _ i _=>2 - (intOf i).toNat)
   case atStart=>exact⟨0,.inl rfl,rfl,hst0,hsl0⟩
   case round=>
    clear hst0 hsl0
    obtain⟨j,hj,rfl,hst,hsl⟩:=hrel
    obtain⟨e0,e1⟩:=hsl.facts
    have HK:=hJ hst
    have HSL:=hJ hsl
    clear hst hsl
    obtain⟨c0,c1,c2,c3,c4,f0,f1,f2,f3,f4⟩:=RdAt.facts HK.out.rd
    rcases hj with rfl|rfl|rfl
    ·go_wp2_with (go_at_call 97;refine(ad4 b s _ _ _ HK.out.rd HK.out.le).mono ?_;rintro e w9 ⟨rfl,hb⟩;clear c0 c1 c2 c3 c4 f0 f1 f2 f3 f4;replace HK:=hJ (HK.out.bel hb);replace HSL:=hJ (HSL.out.bel hb);obtain⟨e0,e1⟩:=HSL.out.facts;clear hb;obtain⟨c0,c1,c2,c3,c4,f0,f1,f2,f3,f4⟩:=RdAt.facts HK.out.rd)
     go_roundw
     case rel=>
      repeat apply Exists.intro
      exact⟨⟨1,.inr (.inl rfl),rfl,HK.out,HSL.out⟩,rfl⟩
     case measure=>simp [intOf]
    ·go_wp2_with (go_at_call 97;refine(ad4 b s _ _ _ HK.out.rd HK.out.le).mono ?_;rintro e w9 ⟨rfl,hb⟩;clear c0 c1 c2 c3 c4 f0 f1 f2 f3 f4;replace HK:=hJ (HK.out.bel hb);replace HSL:=hJ (HSL.out.bel hb);obtain⟨e0,e1⟩:=HSL.out.facts;clear hb;obtain⟨c0,c1,c2,c3,c4,f0,f1,f2,f3,f4⟩:=RdAt.facts HK.out.rd)
     go_roundw
     case rel=>
      repeat apply Exists.intro
      exact⟨⟨2,.inr (.inr rfl),rfl,HK.out,HSL.out⟩,rfl⟩
     case measure=>simp [intOf]
    ·go_wp2_with fail
     go_meet
     exact HK.out
  ·have bg:(goal==1)=false:=by rw [beq_eq_false_iff_ne];exact hg1
   clear hg1
   go_wp2_with fail
   go_meet
   exact HK.out
 case rest=>
  have HK2:=hJ hcut
  clear hcut c0 c1 c2 c3 c4 f0 f1 f2 f3 f4 HK HNO
  have HK:=hJ HK2.out
  clear HK2
  obtain⟨c0,c1,c2,c3,c4,f0,f1,f2,f3,f4⟩:=RdAt.facts HK.out.rd
  have hpu:=bf3 wc (HS.out.but hbl HK.out.but).tab
  have hcl:aj1.length=55:=by decide+kernel
  have HPU:=hJ hpu
  clear hpu
  go_wp2_with fail
  go_step3
  go_wp2_with (go_at_call 170;refine HPU.out.mono ?_;rintro e w9 ⟨rfl,rfl⟩;have hA:(wc.alloc ar7).heap[wc.heap.size]? =some ar7:=heap_alloc_new _ _;replace HK:=hJ (HK.out.bel (Below.alloc (Below.refl _ wc) (Nat.le_refl _) ar7));generalize wc.alloc ar7=w2 at*;generalize wc.heap.size=A at*)
  clear c0 c1 c2 c3 c4 f0 f1 f2 f3 f4 HPU
  go_loopw [8,34,38,43] (fun _ i _ _ wr=> ∃j:Nat,j≤55∧i= .int .i64 (j:Nat)∧Tst b s w ⟨p,line,fl,0⟩ wr∧wr.heap[A]? =some ar7∧aj1.find? (aF0 (s.data.toList.drop p))=(aj1.drop j).find? (aF0 (s.data.toList.drop p))) (fun _ i _ _ _=>55 - (intOf i).toNat)
  case atStart=>exact⟨0,Nat.zero_le _,rfl,HK.out,hA,by rw [List.drop_zero]⟩
  case round=>
   clear hA HK
   obtain⟨j,hj,rfl,hst,hA,heq⟩:=hrel
   have HK:=hJ hst
   clear hst
   obtain⟨c0,c1,c2,c3,c4,f0,f1,f2,f3,f4⟩:=RdAt.facts HK.out.rd
   by_cases hlt:j<55
   ·have hcell:=bJ8 hA j (by omega)
    have hdr:aj1.drop j=aj1[j]::aj1.drop (j+1):=List.drop_eq_getElem_cons (by omega)
    rw [hdr,List.find?_cons] at heq
    have hmem:(aj1[j]'(by omega)).length≠0:=bF2 _ (List.getElem_mem _)
    generalize (aj1[j]'(by omega))=v at*
    have HEQ:=hJ heq
    have HA:=hJ hA
    clear heq hA hdr hcl
    cases hR:Lib.hasPrefix (s.data.toList.drop p) v with
    |false=>
     have HN:=hJ (HEQ.out.trans (by rw [show aF0 (s.data.toList.drop p) v=false by unfold aF0;rw [hR];rfl]))
     clear HEQ
     go_wp2_with (go_at_call 97;refine(ad4 b s _ _ _ HK.out.rd HK.out.le).mono ?_;rintro e w9 ⟨rfl,hb⟩;clear c0 c1 c2 c3 c4 f0 f1 f2 f3 f4;replace HK:=hJ (HK.out.bel hb);replace HA:=hJ ((hb.block A (Array.getElem?_eq_some_iff.1 HA.out).1).trans HA.out);clear hb;obtain⟨c0,c1,c2,c3,c4,f0,f1,f2,f3,f4⟩:=RdAt.facts HK.out.rd)
     go_roundw
     case rel=>exact⟨j+1,by omega,by go_num,HK.out,HA.out,HN.out⟩
     case measure=>simp [intOf];omega
    |true=>
     by_cases hv:v= [63,46]
     ·subst hv
      have HD:=hJ (fun W z hz=>an9 s (p+2) W z hz)
      have hpi:aF0 (s.data.toList.drop p) [63,46]= !ak5 (s.data.toList.drop (p+2)):=by unfold aF0;rw [hR,List.drop_drop];rfl
      cases hD:ak5 (s.data.toList.drop (p+2)) with
      |true=>
       have HN:=hJ (HEQ.out.trans (by rw [hpi,hD]))
       rw [hD] at HD
       clear HEQ hpi hmem
       go_upto_region 13 with (go_at_call 97;refine(ad4 b s _ _ _ HK.out.rd HK.out.le).mono ?_;rintro e w9 ⟨rfl,hb⟩;clear c0 c1 c2 c3 c4 f0 f1 f2 f3 f4;replace HK:=hJ (HK.out.bel hb);replace HA:=hJ ((hb.block A (Array.getElem?_eq_some_iff.1 HA.out).1).trans HA.out);clear hb;obtain⟨c0,c1,c2,c3,c4,f0,f1,f2,f3,f4⟩:=RdAt.facts HK.out.rd)
       go_cut [43] from 44 to 58 (fun v wx=>v= .bool true∧Tst b s w ⟨p,line,fl,0⟩ wx∧wx.heap[A]? =some ar7)
       case first=>
        go_quiet ((go_at_call 102;exact Calls.quiet_of_same ((HD.out _ _ (by omega)).mono (fun _ _ h=>⟨h.1,h.2.symm⟩))))
        go_wp2_with fail
        go_meet
        exact⟨rfl,HK.out.bel (aa3 (Below.refl _ _) _),HA.out⟩
       case rest=>
        obtain⟨rfl,hst,hA⟩:=hcut
        go_wp2_with fail
        go_roundw
        case rel=>exact⟨j+1,by omega,by go_num,hst,hA,HN.out⟩
        case measure=>simp [intOf];omega
      |false=>
       have HN:=hJ (show O=2 by rw [HO.out,HEQ.out,hpi,hD];rfl)
       rw [hD] at HD
       clear HEQ hpi hmem HO
       go_upto_region 13 with (go_at_call 97;refine(ad4 b s _ _ _ HK.out.rd HK.out.le).mono ?_;rintro e w9 ⟨rfl,hb⟩;clear c0 c1 c2 c3 c4 f0 f1 f2 f3 f4;replace HK:=hJ (HK.out.bel hb);replace HA:=hJ ((hb.block A (Array.getElem?_eq_some_iff.1 HA.out).1).trans HA.out);clear hb;obtain⟨c0,c1,c2,c3,c4,f0,f1,f2,f3,f4⟩:=RdAt.facts HK.out.rd)
       go_cut [43] from 44 to 58 (fun v wx=>v= .bool false∧Tst b s w ⟨p,line,fl,0⟩ wx∧wx.heap[A]? =some ar7)
       case first=>
        go_quiet ((go_at_call 102;exact Calls.quiet_of_same ((HD.out _ _ (by omega)).mono (fun _ _ h=>⟨h.1,h.2.symm⟩))))
        go_wp2_with fail
        go_meet
        exact⟨rfl,HK.out.bel (aa3 (Below.refl _ _) _),HA.out⟩
       case rest=>
        obtain⟨rfl,hst,hA⟩:=hcut
        clear c0 c1 c2 c3 c4 f0 f1 f2 f3 f4 HK
        have HK:=hJ hst
        clear hst
        obtain⟨c0,c1,c2,c3,c4,f0,f1,f2,f3,f4⟩:=RdAt.facts HK.out.rd
        have hl:=ae1 hR
        rw [List.length_drop,ofl] at hl
        have hl1:p+2≤s.size:=by simp at hl;omega
        clear hl
        have hk1:=HK.out.setRd (y:=⟨p+2,line,fl,0⟩) 0 (.int .i64 ((p:Int)+2)) rfl hl1
        go_wp2_with fail
        try rw [Exit.noGoto_ret]
        go_ret
        unfold au6
        rw [HN.out]
        exact⟨rfl,hk1⟩
     ·have HN:=hJ (show O=v.length by
       rw [HO.out,HEQ.out,show aF0 (s.data.toList.drop p) v=true by
        unfold aF0
        rw [hR,show(v== [63,46])=false by rw [beq_eq_false_iff_ne];exact hv]
        rfl])
      have hvb:(v== [63,46])=false:=by rw [beq_eq_false_iff_ne];exact hv
      clear HEQ HO hv
      go_upto_region 13 with (go_at_call 97;refine(ad4 b s _ _ _ HK.out.rd HK.out.le).mono ?_;rintro e w9 ⟨rfl,hb⟩;clear c0 c1 c2 c3 c4 f0 f1 f2 f3 f4;replace HK:=hJ (HK.out.bel hb);replace HA:=hJ ((hb.block A (Array.getElem?_eq_some_iff.1 HA.out).1).trans HA.out);clear hb;obtain⟨c0,c1,c2,c3,c4,f0,f1,f2,f3,f4⟩:=RdAt.facts HK.out.rd)
      go_cut [43] from 44 to 58 (fun v wx=>v= .bool false∧Tst b s w ⟨p,line,fl,0⟩ wx∧wx.heap[A]? =some ar7)
      case first=>
       go_quiet (fail)
       go_wp2_with fail
       go_meet
       exact⟨rfl,HK.out.bel (aa3 (Below.refl _ _) _),HA.out⟩
      case rest=>
       obtain⟨rfl,hst,hA⟩:=hcut
       clear c0 c1 c2 c3 c4 f0 f1 f2 f3 f4 HK
       have HK:=hJ hst
       clear hst
       obtain⟨c0,c1,c2,c3,c4,f0,f1,f2,f3,f4⟩:=RdAt.facts HK.out.rd
       have hl:=ae1 hR
       rw [List.length_drop,ofl] at hl
       have hl1:p+v.length≤s.size:=by omega
       clear hl
       have hsz:(⟨v.toArray⟩:ByteArray).size=v.length:=rfl
       have hk1:=HK.out.setRd (y:=⟨p+v.length,line,fl,0⟩) 0 (.int .i64 ((p:Int)+(v.length:Int))) rfl hl1
       go_wp2_with fail
       try rw [Exit.noGoto_ret]
       go_ret
       unfold au6
       rw [HN.out]
       exact⟨by rw [decide_eq_true hmem];rfl,hk1⟩
   ·obtain rfl:j=55:=by omega
    have HN:=hJ (show O=0 by rw [HO.out,heq,List.drop_of_length_le (show aj1.length≤55 by omega)];rfl)
    clear heq
    go_wp2_with fail
    try rw [Exit.noGoto_ret]
    go_ret
    unfold au6
    rw [HN.out]
    exact⟨rfl,HK.out⟩
theorem bo4 (b:Nat) (s:ByteArray) (p:Nat) (line:Bool) (fl:Int) (goal:Int) (w:World) (hx:RdAt w b s ⟨p,line,fl,0⟩) (hr:ae6 b w) (hS:Spc b w) (hs:s.size≤16777216) (hp:p<s.size):
  Calls Tryz.prog 106 #[.pointer (some ⟨b,0,none⟩),.int .i64 goal] w fun e w'=>au6 b s p line fl w (pct goal (s.data.toList.drop p)) e w':=by
 by_cases h:goal=1∧Lib.hasPrefix (s.data.toList.drop p) [47]=true
 ·obtain⟨rfl,h2⟩:=h
  exact aU0 b s p line fl w hx hr hs (Nat.le_of_lt hp) h2
 ·exact bo5 b s p line fl goal w hx hr hS hs (Nat.le_of_lt hp) h
end
section
open Go.RowKit
theorem is_q (b:Nat) (s:ByteArray) (x:Rd) (l:List UInt8) (w:World) (hx:RdAt w b s x) (hp:x.at'≤s.size):
  Calls Tryz.prog 97 #[.pointer (some ⟨b,0,none⟩),.string ⟨l.toArray⟩] w fun e w'=>e= .returned (.bool (Lib.hasPrefix (s.data.toList.drop x.at') l))∧∃m,w'=w.drewN m:=by
 obtain⟨q,line,fail,code⟩:=x
 simp only at hp⊢
 have hh: ∀W,Calls Tryz.prog 31 #[.string (s.extract q s.size),.string ⟨l.toArray⟩] W fun e w'=>e= .returned (.bool (Lib.hasPrefix (s.data.toList.drop q) l))∧w'=W:=fun W=>by
  have:=Tryz.strings_HasPrefix (s.extract q s.size) ⟨l.toArray⟩ W
  rw [af9] at this
  exact this
 generalize Lib.hasPrefix (s.data.toList.drop q) l=r at*
 have HH:=hJ hh
 obtain⟨c0,c1,c2,c3,c4,f0,f1,f2,f3,f4⟩:=RdAt.facts hx
 clear hh hx
 go_enter Tryz.func97,Tryz.ntmps97
 go_wp2_with fail
 go_quiet ((go_at_call 31;exact Calls.quiet_of_same (HH.out _)))
 go_wp2_with fail
 go_ret
 exact⟨rfl,_,rfl⟩
theorem ba7 {dash:Bool} {l:List UInt8} (h: ¬(0<(nx l).2∧ae2 (nx l).1=true)):al5 dash l=0:=by unfold al5;rw [if_neg h]
theorem aP1 {dash:Bool} {l:List UInt8} (h:0<(nx l).2∧ae2 (nx l).1=true):0<al5 dash l:=by
 unfold al5
 rw [if_pos h]
 obtain⟨n,h1,h2,_⟩:=an6 (aD3 (dash:=dash) h)
 rw [as4 (aD3 h),h1,Int.toNat_natCast]
 omega
theorem ba6 (dash:Bool) (l:List UInt8):al5 dash l≤l.length:=by
 unfold al5
 split
 ·exact aI7 _ _ _
 ·exact Nat.zero_le _
theorem aC2 {l:List UInt8} {kind:Int} {n:Nat} (h:(nx (l.drop n)).2<0):aft l kind n= .bad n 502:=by unfold aft;rw [if_pos h]
theorem au8 {l:List UInt8} {kind:Int} {n:Nat} (h:0≤(nx (l.drop n)).2):aft l kind n= .fine kind n:=by unfold aft;rw [if_neg (by omega)]
theorem TkP.of_odd {b:Nat} {s:ByteArray} {p:Nat} {line:Bool} {fl:Int} {w w':World} {O:TkO} {off:Nat} {code:Int} {x':Rd} {kd:Int} (hO:O= .bad off code) (h1:Tst b s w x' w') (h2:x'.line=line) (h3:x'.fail=((p+off:Nat):Int)) (h4:x'.code=code):
  TkP b s p line fl w O (.returned (.tuple #[.int .i64 kd,.bool false])) w':=by
 rw [hO]
 exact⟨x',kd,rfl,h1,h2,h3,h4⟩
theorem TkP.of_fine {b:Nat} {s:ByteArray} {p q:Nat} {line:Bool} {fl:Int} {w w':World} {O:TkO} {n:Nat} {kd:Int} (hO:O= .fine kd n) (hq:p+n=q) (h1:Tst b s w ⟨q,line,fl,0⟩ w'):
  TkP b s p line fl w O (.returned (.tuple #[.int .i64 kd,.bool true])) w':=by
 subst hq
 rw [hO]
 exact⟨rfl,h1⟩
theorem bc0 {l:List UInt8} {kd:Int} {n:Nat} (h:txt l= .fine kd n):kd=4:=by
 unfold txt at h
 split at h
 ·cases h;rfl
 ·split at h<;>cases h
theorem bg5 (b:Nat) (s:ByteArray) (p:Nat) (line:Bool) (fl:Int) (goal:Int) (hg:goal=1∨goal=2) (w:World) (hx:RdAt w b s ⟨p,line,fl,0⟩) (hr:ae6 b w) (hS:Spc b w) (hs:s.size≤16777216) (hp:p≤s.size):
  Calls Tryz.prog 59 #[.pointer (some ⟨b,0,none⟩),.int .i64 goal] w fun e w'=>TkP b s p line fl w (aA2 goal (s.data.toList.drop p)) e w':=by
 have HK:=hJ (show Tst b s w ⟨p,line,fl,0⟩ w from⟨hx,But.refl _ _,hr,hp⟩)
 have hbl:=hx.lt
 have hO:aA2 goal (s.data.toList.drop p)=aA2 goal (s.data.toList.drop p):=rfl
 conv at hO=>rhs;unfold aA2
 rw [List.drop_drop] at hO
 generalize aA2 goal (s.data.toList.drop p)=O at*
 have HO:=hJ hO
 have HS:=hJ hS
 have HGO:=hJ hg
 clear hO hx hr hS hg
 obtain⟨c0,c1,c2,c3,c4,f0,f1,f2,f3,f4⟩:=RdAt.facts HK.out.rd
 go_enter Tryz.func59,Tryz.ntmps59
 go_upto_region 1 with fail
 by_cases hend:p=s.size
 ·have HN:=hJ (show O= .fine 0 0 by rw [HO.out,if_pos (List.drop_of_length_le (by rw [ofl];omega))])
  have be:(((p:Nat):Int)==((s.size:Nat):Int))=true:=by rw [beq_iff_eq];omega
  clear HO hend
  go_quiet (fail)
  go_wp2_with fail
  go_ret2
  exact TkP.of_fine HN.out (Nat.add_zero _) (HK.out.bel (aa3 (Below.refl _ _) _))
 ·have hne:s.data.toList.drop p≠ []:=fun h=>by
   have:=congrArg List.length h
   rw [List.length_drop,ofl] at this
   simp at this
   omega
  replace HO:=hJ (HO.out.trans (by rw [if_neg hne]))
  have be:(((p:Nat):Int)==((s.size:Nat):Int))=false:=by rw [beq_eq_false_iff_ne];omega
  have hlt:p<s.size:=by omega
  have hp1:p+1≤s.size:=hlt
  clear hne hend
  go_quiet (fail)
  go_upto_region 3 with fail
  generalize hwd:World.drewN _ _=w3 at*
  have hbd:Below w.heap.size w w3:=by rw [←hwd];exact aa3 (Below.refl _ _) _
  clear hwd c0 c1 c2 c3 c4 f0 f1 f2 f3 f4
  replace HK:=hJ (HK.out.bel hbd)
  clear hbd
  obtain⟨c0,c1,c2,c3,c4,f0,f1,f2,f3,f4⟩:=RdAt.facts HK.out.rd
  cases h96:Lib.hasPrefix (s.data.toList.drop p) [96] with
  |true=>
   have HO2:=hJ (HO.out.trans (by rw [if_pos h96]))
   have hT:=aQ9 b s p line fl
   cases hTP:tpl (s.data.toList.drop (p+1)) with
   |fine n h=>
    rw [hTP] at hT
    simp only [aM3] at hT
    have HT:=hJ (fun W hx hr=>hT W hx hr hs hlt)
    have HN:=hJ (show O= .fine (if h=true then 8 else 7) (1+n) by rw [HO2.out,hTP];rfl)
    clear hT HO HO2 hTP
    go_upto_region 4 with (go_at_call 97;refine(ad4 b s _ _ _ HK.out.rd HK.out.le).mono ?_;rintro e w9 ⟨rfl,hb⟩;clear c0 c1 c2 c3 c4 f0 f1 f2 f3 f4;replace HK:=hJ (HK.out.bel hb);clear hb;obtain⟨c0,c1,c2,c3,c4,f0,f1,f2,f3,f4⟩:=RdAt.facts HK.out.rd)
    cases h with
    |true=>
     go_wp2_with (go_at_call 94;refine(HT.out _ HK.out.rd HK.out.rdy).mono ?_;rintro e w9 ⟨rfl,hst9⟩;clear c0 c1 c2 c3 c4 f0 f1 f2 f3 f4;replace HK:=hJ (HK.out.step hst9.rd hst9.but hst9.le);clear hst9;obtain⟨c0,c1,c2,c3,c4,f0,f1,f2,f3,f4⟩:=RdAt.facts HK.out.rd)
     go_ret2
     exact TkP.of_fine HN.out (by omega) HK.out
    |false=>
     go_wp2_with (go_at_call 94;refine(HT.out _ HK.out.rd HK.out.rdy).mono ?_;rintro e w9 ⟨rfl,hst9⟩;clear c0 c1 c2 c3 c4 f0 f1 f2 f3 f4;replace HK:=hJ (HK.out.step hst9.rd hst9.but hst9.le);clear hst9;obtain⟨c0,c1,c2,c3,c4,f0,f1,f2,f3,f4⟩:=RdAt.facts HK.out.rd)
     go_ret2
     exact TkP.of_fine HN.out (by omega) HK.out
   |bad off code=>
    rw [hTP] at hT
    simp only [aM3] at hT
    have HT:=hJ (fun W hx hr=>hT W hx hr hs hlt)
    have HN:=hJ (show O= .bad (if code=502 then 1+off else 0) code by rw [HO2.out,hTP];rfl)
    clear hT HO HO2 hTP
    go_upto_region 4 with (go_at_call 97;refine(ad4 b s _ _ _ HK.out.rd HK.out.le).mono ?_;rintro e w9 ⟨rfl,hb⟩;clear c0 c1 c2 c3 c4 f0 f1 f2 f3 f4;replace HK:=hJ (HK.out.bel hb);clear hb;obtain⟨c0,c1,c2,c3,c4,f0,f1,f2,f3,f4⟩:=RdAt.facts HK.out.rd)
    go_wp2_with (go_at_call 94;refine(HT.out _ HK.out.rd HK.out.rdy).mono ?_;rintro e w9 ⟨x',rfl,hst9,hl9,hf9,hc9⟩)
    go_ret2
    exact TkP.of_odd HN.out (HK.out.step hst9.rd hst9.but hst9.le) hl9 (hf9.trans (aJ6 p off code)) hc9
  |false=>
   replace HO:=hJ (HO.out.trans (by rw [if_neg (by rw [h96];decide)]))
   go_upto_region 8 with (go_at_call 97;refine(ad4 b s _ _ _ HK.out.rd HK.out.le).mono ?_;rintro e w9 ⟨rfl,hb⟩;clear c0 c1 c2 c3 c4 f0 f1 f2 f3 f4;replace HK:=hJ (HK.out.bel hb);clear hb;obtain⟨c0,c1,c2,c3,c4,f0,f1,f2,f3,f4⟩:=RdAt.facts HK.out.rd)
   cases h35:Lib.hasPrefix (s.data.toList.drop p) [35] with
   |true=>
    have hO2:=HO.out
    rw [if_pos h35] at hO2
    unfold priv at hO2
    rw [List.drop_drop] at hO2
    have HO2:=hJ hO2
    clear hO2 HO
    go_upto_region 10 with (go_at_call 97;refine(ad4 b s _ _ _ HK.out.rd HK.out.le).mono ?_;rintro e w9 ⟨rfl,hb⟩;clear c0 c1 c2 c3 c4 f0 f1 f2 f3 f4;replace HK:=hJ (HK.out.bel hb);clear hb;obtain⟨c0,c1,c2,c3,c4,f0,f1,f2,f3,f4⟩:=RdAt.facts HK.out.rd)
    have hk1:=HK.out.setRd (y:=⟨p+1,line,fl,0⟩) 0 (.int .i64 ((p:Int)+1)) rfl hp1
    go_upto_region 11 with fail
    clear c0 c1 c2 c3 c4 f0 f1 f2 f3 f4 HK
    generalize World.setCell _ _ _=w6 at*
    have HK:=hJ hk1
    clear hk1
    obtain⟨c0,c1,c2,c3,c4,f0,f1,f2,f3,f4⟩:=RdAt.facts HK.out.rd
    by_cases hneg:(nx (s.data.toList.drop (p+1))).2<0
    ·have HN:=hJ (show O= .bad 1 502 by rw [HO2.out,if_pos hneg])
     have HBR:=hJ hneg
     clear HO2 hneg
     go_wp2_with (go_at_call 101;refine(ak7 b s _ _ HK.out.rd HK.out.rdy HK.out.le HBR.out).mono ?_;rintro e w9 ⟨rfl,hx9,hb9⟩;clear c0 c1 c2 c3 c4 f0 f1 f2 f3 f4;replace HK:=hJ (HK.out.step hx9 hb9 HK.out.le);clear hx9 hb9;obtain⟨c0,c1,c2,c3,c4,f0,f1,f2,f3,f4⟩:=RdAt.facts HK.out.rd)
     go_ret2
     exact TkP.of_odd HN.out HK.out rfl rfl rfl
    ·have HO3:=hJ (HO2.out.trans (by rw [if_neg hneg]))
     have HBR:=hJ (show 0≤(nx (s.data.toList.drop (p+1))).2 by omega)
     clear HO2 hneg
     go_upto_region 13 with (go_at_call 101;refine(aj2 b s _ _ HK.out.rd HK.out.rdy HK.out.le HBR.out).mono ?_;rintro e w9 ⟨rfl,hb⟩;clear c0 c1 c2 c3 c4 f0 f1 f2 f3 f4;replace HK:=hJ (HK.out.bel hb);clear hb;obtain⟨c0,c1,c2,c3,c4,f0,f1,f2,f3,f4⟩:=RdAt.facts HK.out.rd)
     clear HBR
     by_cases hnm:0<(nx (s.data.toList.drop (p+1))).2∧ae2 (nx (s.data.toList.drop (p+1))).1=true
     ·have hn0:=aP1 (dash:=false) hnm
      have hnl:=ba6 false (s.data.toList.drop (p+1))
      rw [List.length_drop,ofl] at hnl
      have HO4:=hJ (HO3.out.trans (by rw [if_neg (by omega)]))
      have HNM:=hJ hnm
      obtain⟨m,hm⟩: ∃m,al5 false (s.data.toList.drop (p+1))=m:=⟨_,rfl⟩
      have hqn:p+1+al5 false (s.data.toList.drop (p+1))≤s.size:=by omega
      have hqm:p+1+m≤s.size:=by omega
      have HO5:=hJ (HO4.out.trans (by rw [hm]))
      have HM:=hJ hm
      clear HO3 HO4 hnm hn0 hnl hm
      go_upto_region 15 with (go_at_call 100;refine(ba8 b s _ _ _ HK.out.rd HK.out.rdy hs HK.out.le HNM.out).mono ?_;rintro e w9 ⟨rfl,hx9,hb9⟩;clear c0 c1 c2 c3 c4 f0 f1 f2 f3 f4;replace HK:=hJ (HK.out.step hx9 hb9 hqn);clear hx9 hb9;obtain⟨c0,c1,c2,c3,c4,f0,f1,f2,f3,f4⟩:=RdAt.facts HK.out.rd)
      rw [HM.out] at HK
      clear c0 c1 c2 c3 c4 f0 f1 f2 f3 f4
      obtain⟨c0,c1,c2,c3,c4,f0,f1,f2,f3,f4⟩:=RdAt.facts HK.out.rd
      by_cases hneg:(nx (s.data.toList.drop (p+1+m))).2<0
      ·have HN:=hJ (show O= .bad (1+m) 502 by rw [HO5.out];exact aC2 (by rw [List.drop_drop];first|exact hneg|(rw [←Nat.add_assoc];exact hneg)))
       have HBR:=hJ hneg
       clear HO5 hneg
       go_wp2_with (go_at_call 101;refine(ak7 b s _ _ HK.out.rd HK.out.rdy HK.out.le HBR.out).mono ?_;rintro e w9 ⟨rfl,hx9,hb9⟩;clear c0 c1 c2 c3 c4 f0 f1 f2 f3 f4;replace HK:=hJ (HK.out.step hx9 hb9 HK.out.le);clear hx9 hb9;obtain⟨c0,c1,c2,c3,c4,f0,f1,f2,f3,f4⟩:=RdAt.facts HK.out.rd)
       go_ret2
       exact TkP.of_odd HN.out HK.out rfl (by first|rfl|(simp only;omega)) rfl
      ·have hpos:0≤(nx (s.data.toList.drop (p+1+m))).2:=by omega
       have HN:=hJ (show O= .fine _ (1+m) by rw [HO5.out];exact au8 (by rw [List.drop_drop];first|exact hpos|(rw [←Nat.add_assoc];exact hpos)))
       have HBR:=hJ hpos
       clear HO5 hneg hpos
       go_wp2_with (go_at_call 101;refine(aj2 b s _ _ HK.out.rd HK.out.rdy HK.out.le HBR.out).mono ?_;rintro e w9 ⟨rfl,hb⟩;clear c0 c1 c2 c3 c4 f0 f1 f2 f3 f4;replace HK:=hJ (HK.out.bel hb);clear hb;obtain⟨c0,c1,c2,c3,c4,f0,f1,f2,f3,f4⟩:=RdAt.facts HK.out.rd)
       go_ret2
       exact TkP.of_fine HN.out (by omega) HK.out
     ·have HN:=hJ (show O= .bad 0 509 by rw [HO3.out,if_pos (ba7 hnm)])
      have HNM:=hJ hnm
      clear HO3 hnm
      go_upto_region 14 with (go_at_call 100;refine(bm6 b s _ _ _ HK.out.rd HK.out.rdy HK.out.le HNM.out).mono ?_;rintro e w9 ⟨rfl,hb⟩;clear c0 c1 c2 c3 c4 f0 f1 f2 f3 f4;replace HK:=hJ (HK.out.bel hb);clear hb;obtain⟨c0,c1,c2,c3,c4,f0,f1,f2,f3,f4⟩:=RdAt.facts HK.out.rd)
      go_wp2_with (go_at_call 99;refine(ae5 b s _ _ _ _ HK.out.rd).mono ?_;rintro e w9 ⟨rfl,hx9,hb9⟩;clear c0 c1 c2 c3 c4 f0 f1 f2 f3 f4;replace HK:=hJ (HK.out.step hx9 hb9 HK.out.le);clear hx9 hb9;obtain⟨c0,c1,c2,c3,c4,f0,f1,f2,f3,f4⟩:=RdAt.facts HK.out.rd)
      go_ret2
      exact TkP.of_odd HN.out HK.out rfl (by simp only [Nat.add_zero]) rfl
   |false=>
    replace HO:=hJ (HO.out.trans (by rw [if_neg (by rw [h35];decide)]))
    go_upto_region 16 with (go_at_call 97;refine(ad4 b s _ _ _ HK.out.rd HK.out.le).mono ?_;rintro e w9 ⟨rfl,hb⟩;clear c0 c1 c2 c3 c4 f0 f1 f2 f3 f4;replace HK:=hJ (HK.out.bel hb);clear hb;obtain⟨c0,c1,c2,c3,c4,f0,f1,f2,f3,f4⟩:=RdAt.facts HK.out.rd)
    obtain⟨D,hD⟩: ∃D,D=(ak5 (s.data.toList.drop p)||(Lib.hasPrefix (s.data.toList.drop p) [46] && ak5 (s.data.toList.drop (p+1)))):=⟨_,rfl⟩
    have HD:=hJ hD
    clear hD
    have HD1:=hJ (fun W z hz=>an9 s p W z hz)
    have HD2:=hJ (fun W z hz=>an9 s (p+1) W z hz)
    cases hd1:ak5 (s.data.toList.drop p) with
    |true=>
     rw [hd1] at HD1
     have HO2:=hJ (HO.out.trans (by rw [if_pos (.inl hd1)]))
     clear HO HD HD2
     go_cut [62] from 63 to 72 (fun v wx=>v= .bool true∧Tst b s w ⟨p,line,fl,0⟩ wx)
     case first=>
      go_quiet ((go_at_call 102;exact Calls.quiet_of_same ((HD1.out _ _ (by omega)).mono (fun _ _ h=>⟨h.1,h.2.symm⟩))))
      go_wp2_with fail
      go_meet
      exact⟨rfl,HK.out.bel (aa3 (Below.refl _ _) _)⟩
     case rest=>
      obtain⟨rfl,hst⟩:=hcut
      clear c0 c1 c2 c3 c4 f0 f1 f2 f3 f4 HK
      have HK:=hJ hst
      clear hst
      obtain⟨c0,c1,c2,c3,c4,f0,f1,f2,f3,f4⟩:=RdAt.facts HK.out.rd
      have hO2:=HO2.out
      unfold numT at hO2
      have hnl:numL (s.data.toList.drop p)≤(s.data.toList.drop p).length:=by
       unfold numL
       split
       ·exact Nat.zero_le _
       ·exact aB6 _
      rw [List.length_drop,ofl] at hnl
      obtain⟨m,hm⟩: ∃m,numL (s.data.toList.drop p)=m:=⟨_,rfl⟩
      by_cases hm0:m=0
      ·have HN:=hJ (show O= .bad 0 503 by rw [hO2,if_pos (hm.trans hm0)])
       have HNU:=hJ (hm.trans hm0)
       clear hO2 HO2 hm hm0 hnl
       go_wp2_with (go_at_call 103;refine(aI6 b s _ _ HK.out.rd HK.out.rdy hs HK.out.le HNU.out).mono ?_;rintro e w9 ⟨rfl,hx9,hb9⟩;clear c0 c1 c2 c3 c4 f0 f1 f2 f3 f4;replace HK:=hJ (HK.out.step hx9 hb9 HK.out.le);clear hx9 hb9;obtain⟨c0,c1,c2,c3,c4,f0,f1,f2,f3,f4⟩:=RdAt.facts HK.out.rd)
       go_ret2
       exact TkP.of_odd HN.out HK.out rfl (by simp only [Nat.add_zero]) rfl
      ·have HO5:=hJ (hO2.trans (by rw [if_neg (fun h=>hm0 (hm.symm.trans h)),hm]))
       have HNU:=hJ (show 0<numL (s.data.toList.drop p) by omega)
       have hqn:p+numL (s.data.toList.drop p)≤s.size:=by omega
       have hqm:p+m≤s.size:=by omega
       have HM:=hJ hm
       clear hO2 HO2 hm hm0 hnl
       by_cases hneg:(nx (s.data.toList.drop (p+m))).2<0
       ·have HN:=hJ (show O= .bad m 502 by rw [HO5.out];exact aC2 (by rw [List.drop_drop];exact hneg))
        have HBR:=hJ hneg
        clear HO5 hneg
        go_wp2_with (first|(go_at_call 103;refine(ap4 b s _ _ HK.out.rd HK.out.rdy hs HK.out.le HNU.out).mono ?_;rintro e w9 ⟨rfl,hx9,hb9⟩;clear c0 c1 c2 c3 c4 f0 f1 f2 f3 f4;replace HK:=hJ (HK.out.step hx9 hb9 hqn);clear hx9 hb9;rw [HM.out] at HK;obtain⟨c0,c1,c2,c3,c4,f0,f1,f2,f3,f4⟩:=RdAt.facts HK.out.rd)|(go_at_call 101;refine(ak7 b s _ _ HK.out.rd HK.out.rdy HK.out.le HBR.out).mono ?_;rintro e w9 ⟨rfl,hx9,hb9⟩;clear c0 c1 c2 c3 c4 f0 f1 f2 f3 f4;replace HK:=hJ (HK.out.step hx9 hb9 HK.out.le);clear hx9 hb9;obtain⟨c0,c1,c2,c3,c4,f0,f1,f2,f3,f4⟩:=RdAt.facts HK.out.rd))
        go_ret2
        exact TkP.of_odd HN.out HK.out rfl (by simp only) rfl
       ·have hpos:0≤(nx (s.data.toList.drop (p+m))).2:=by omega
        have HN:=hJ (show O= .fine 3 m by rw [HO5.out];exact au8 (by rw [List.drop_drop];exact hpos))
        have HBR:=hJ hpos
        clear HO5 hneg hpos
        go_wp2_with (first|(go_at_call 103;refine(ap4 b s _ _ HK.out.rd HK.out.rdy hs HK.out.le HNU.out).mono ?_;rintro e w9 ⟨rfl,hx9,hb9⟩;clear c0 c1 c2 c3 c4 f0 f1 f2 f3 f4;replace HK:=hJ (HK.out.step hx9 hb9 hqn);clear hx9 hb9;rw [HM.out] at HK;obtain⟨c0,c1,c2,c3,c4,f0,f1,f2,f3,f4⟩:=RdAt.facts HK.out.rd)|(go_at_call 101;refine(aj2 b s _ _ HK.out.rd HK.out.rdy HK.out.le HBR.out).mono ?_;rintro e w9 ⟨rfl,hb⟩;clear c0 c1 c2 c3 c4 f0 f1 f2 f3 f4;replace HK:=hJ (HK.out.bel hb);clear hb;obtain⟨c0,c1,c2,c3,c4,f0,f1,f2,f3,f4⟩:=RdAt.facts HK.out.rd))
        go_ret2
        exact TkP.of_fine HN.out rfl HK.out
    |false=>
     rw [hd1] at HD1
     go_cut [62] from 63 to 72 (fun v wx=>v= .bool false∧Tst b s w ⟨p,line,fl,0⟩ wx)
     case first=>
      go_quiet ((go_at_call 102;exact Calls.quiet_of_same ((HD1.out _ _ (by omega)).mono (fun _ _ h=>⟨h.1,h.2.symm⟩))))
      go_wp2_with fail
      go_meet
      exact⟨rfl,HK.out.bel (aa3 (Below.refl _ _) _)⟩
     case rest=>
      obtain⟨rfl,hst⟩:=hcut
      clear c0 c1 c2 c3 c4 f0 f1 f2 f3 f4 HK
      have HK:=hJ hst
      clear hst
      obtain⟨c0,c1,c2,c3,c4,f0,f1,f2,f3,f4⟩:=RdAt.facts HK.out.rd
      cases h46:Lib.hasPrefix (s.data.toList.drop p) [46] && ak5 (s.data.toList.drop (p+1)) with
      |true=>
       have h46b:=Bool.and_eq_true_iff.1 h46
       obtain⟨h46c,h46d⟩:=h46b
       have HO2:=hJ (HO.out.trans (by rw [if_pos (.inr ⟨h46c,h46d⟩)]))
       rw [h46d] at HD2
       clear HO HD HD1 h46 h46d
       have hw1:IntKind.i64.wrap ((p:Int)+1)=(p:Int)+1:=IntWalk.i64_in _ (by omega)
       go_upto_region 17 with fail
       go_cut [62] from 73 to 87 (fun v wx=>v= .bool true∧Tst b s w ⟨p,line,fl,0⟩ wx)
       case first=>
        have hiq: ∀n,Calls Tryz.prog 97 #[.pointer (some ⟨b,0,none⟩),.string ⟨#[46]⟩] (wc.drewN n) fun e w'=>e= .returned (.bool true)∧∃m,w'=(wc.drewN n).drewN m:=fun n=>by
         have:=is_q b s ⟨p,line,fl,0⟩ [46] (wc.drewN n) (HK.out.rd.bel (aa3 (Below.refl _ _) _)) HK.out.le
         simp only at this
         rw [h46c] at this
         exact this
        have HIQ:=hJ hiq
        clear hiq h46c
        go_quiet ((first|(go_at_call 97;exact Calls.quiet_of (HIQ.out _))|(go_at_call 102;exact Calls.quiet_of_same ((HD2.out _ _ (by omega)).mono (fun _ _ h=>⟨h.1,h.2.symm⟩)))))
        go_wp2_with fail
        go_meet
        exact⟨rfl,HK.out.bel (aa3 (Below.refl _ _) _)⟩
       case rest=>
        obtain⟨rfl,hst⟩:=hcut
        clear c0 c1 c2 c3 c4 f0 f1 f2 f3 f4 HK
        have HK:=hJ hst
        clear hst
        obtain⟨c0,c1,c2,c3,c4,f0,f1,f2,f3,f4⟩:=RdAt.facts HK.out.rd
        clear hw1
        have hO2:=HO2.out
        unfold numT at hO2
        have hnl:numL (s.data.toList.drop p)≤(s.data.toList.drop p).length:=by
         unfold numL
         split
         ·exact Nat.zero_le _
         ·exact aB6 _
        rw [List.length_drop,ofl] at hnl
        obtain⟨m,hm⟩: ∃m,numL (s.data.toList.drop p)=m:=⟨_,rfl⟩
        by_cases hm0:m=0
        ·have HN:=hJ (show O= .bad 0 503 by rw [hO2,if_pos (hm.trans hm0)])
         have HNU:=hJ (hm.trans hm0)
         clear hO2 HO2 hm hm0 hnl
         go_wp2_with (go_at_call 103;refine(aI6 b s _ _ HK.out.rd HK.out.rdy hs HK.out.le HNU.out).mono ?_;rintro e w9 ⟨rfl,hx9,hb9⟩;clear c0 c1 c2 c3 c4 f0 f1 f2 f3 f4;replace HK:=hJ (HK.out.step hx9 hb9 HK.out.le);clear hx9 hb9;obtain⟨c0,c1,c2,c3,c4,f0,f1,f2,f3,f4⟩:=RdAt.facts HK.out.rd)
         go_ret2
         exact TkP.of_odd HN.out HK.out rfl (by simp only [Nat.add_zero]) rfl
        ·have HO5:=hJ (hO2.trans (by rw [if_neg (fun h=>hm0 (hm.symm.trans h)),hm]))
         have HNU:=hJ (show 0<numL (s.data.toList.drop p) by omega)
         have hqn:p+numL (s.data.toList.drop p)≤s.size:=by omega
         have hqm:p+m≤s.size:=by omega
         have HM:=hJ hm
         clear hO2 HO2 hm hm0 hnl
         by_cases hneg:(nx (s.data.toList.drop (p+m))).2<0
         ·have HN:=hJ (show O= .bad m 502 by rw [HO5.out];exact aC2 (by rw [List.drop_drop];exact hneg))
          have HBR:=hJ hneg
          clear HO5 hneg
          go_wp2_with (first|(go_at_call 103;refine(ap4 b s _ _ HK.out.rd HK.out.rdy hs HK.out.le HNU.out).mono ?_;rintro e w9 ⟨rfl,hx9,hb9⟩;clear c0 c1 c2 c3 c4 f0 f1 f2 f3 f4;replace HK:=hJ (HK.out.step hx9 hb9 hqn);clear hx9 hb9;rw [HM.out] at HK;obtain⟨c0,c1,c2,c3,c4,f0,f1,f2,f3,f4⟩:=RdAt.facts HK.out.rd)|(go_at_call 101;refine(ak7 b s _ _ HK.out.rd HK.out.rdy HK.out.le HBR.out).mono ?_;rintro e w9 ⟨rfl,hx9,hb9⟩;clear c0 c1 c2 c3 c4 f0 f1 f2 f3 f4;replace HK:=hJ (HK.out.step hx9 hb9 HK.out.le);clear hx9 hb9;obtain⟨c0,c1,c2,c3,c4,f0,f1,f2,f3,f4⟩:=RdAt.facts HK.out.rd))
          go_ret2
          exact TkP.of_odd HN.out HK.out rfl (by simp only) rfl
         ·have hpos:0≤(nx (s.data.toList.drop (p+m))).2:=by omega
          have HN:=hJ (show O= .fine 3 m by rw [HO5.out];exact au8 (by rw [List.drop_drop];exact hpos))
          have HBR:=hJ hpos
          clear HO5 hneg hpos
          go_wp2_with (first|(go_at_call 103;refine(ap4 b s _ _ HK.out.rd HK.out.rdy hs HK.out.le HNU.out).mono ?_;rintro e w9 ⟨rfl,hx9,hb9⟩;clear c0 c1 c2 c3 c4 f0 f1 f2 f3 f4;replace HK:=hJ (HK.out.step hx9 hb9 hqn);clear hx9 hb9;rw [HM.out] at HK;obtain⟨c0,c1,c2,c3,c4,f0,f1,f2,f3,f4⟩:=RdAt.facts HK.out.rd)|(go_at_call 101;refine(aj2 b s _ _ HK.out.rd HK.out.rdy HK.out.le HBR.out).mono ?_;rintro e w9 ⟨rfl,hb⟩;clear c0 c1 c2 c3 c4 f0 f1 f2 f3 f4;replace HK:=hJ (HK.out.bel hb);clear hb;obtain⟨c0,c1,c2,c3,c4,f0,f1,f2,f3,f4⟩:=RdAt.facts HK.out.rd))
          go_ret2
          exact TkP.of_fine HN.out rfl HK.out
      |false=>
       have h46n: ¬(ak5 (s.data.toList.drop p)=true∨(Lib.hasPrefix (s.data.toList.drop p) [46]=true∧ak5 (s.data.toList.drop (p+1))=true)):=by
        rintro(h|⟨h,h'⟩)
        ·rw [hd1] at h;cases h
        ·rw [h,h'] at h46;cases h46
       replace HO:=hJ (HO.out.trans (by rw [if_neg h46n]))
       clear HD HD1 h46n
       go_upto_region 17 with fail
       go_cut [62] from 73 to 87 (fun v wx=>v= .bool false∧Tst b s w ⟨p,line,fl,0⟩ wx)
       case first=>
        cases h46c:Lib.hasPrefix (s.data.toList.drop p) [46] with
        |true=>
         rw [h46c,Bool.true_and] at h46
         rw [h46] at HD2
         clear h46 HO
         have hw1:IntKind.i64.wrap ((p:Int)+1)=(p:Int)+1:=IntWalk.i64_in _ (by omega)
         have hiq: ∀n,Calls Tryz.prog 97 #[.pointer (some ⟨b,0,none⟩),.string ⟨#[46]⟩] (wc.drewN n) fun e w'=>e= .returned (.bool true)∧∃m,w'=(wc.drewN n).drewN m:=fun n=>by
          have:=is_q b s ⟨p,line,fl,0⟩ [46] (wc.drewN n) (HK.out.rd.bel (aa3 (Below.refl _ _) _)) HK.out.le
          simp only at this
          rw [h46c] at this
          exact this
         have HIQ:=hJ hiq
         clear hiq h46c
         go_quiet ((first|(go_at_call 97;exact Calls.quiet_of (HIQ.out _))|(go_at_call 102;exact Calls.quiet_of_same ((HD2.out _ _ (by omega)).mono (fun _ _ h=>⟨h.1,h.2.symm⟩)))))
         go_wp2_with fail
         go_meet
         exact⟨rfl,HK.out.bel (aa3 (Below.refl _ _) _)⟩
        |false=>
         clear h46 HO
         have hiq: ∀n,Calls Tryz.prog 97 #[.pointer (some ⟨b,0,none⟩),.string ⟨#[46]⟩] (wc.drewN n) fun e w'=>e= .returned (.bool false)∧∃m,w'=(wc.drewN n).drewN m:=fun n=>by
          have:=is_q b s ⟨p,line,fl,0⟩ [46] (wc.drewN n) (HK.out.rd.bel (aa3 (Below.refl _ _) _)) HK.out.le
          simp only at this
          rw [h46c] at this
          exact this
         have HIQ:=hJ hiq
         clear hiq h46c
         go_quiet ((first|(go_at_call 97;exact Calls.quiet_of (HIQ.out _))|(go_at_call 102;exact Calls.quiet_of_same ((HD2.out _ _ (by omega)).mono (fun _ _ h=>⟨h.1,h.2.symm⟩)))))
         go_wp2_with fail
         go_meet
         exact⟨rfl,HK.out.bel (aa3 (Below.refl _ _) _)⟩
       case rest=>
        obtain⟨rfl,hst⟩:=hcut
        clear c0 c1 c2 c3 c4 f0 f1 f2 f3 f4 HK
        have HK:=hJ hst
        clear hst
        obtain⟨c0,c1,c2,c3,c4,f0,f1,f2,f3,f4⟩:=RdAt.facts HK.out.rd
        clear h46 HD2
        cases h39:Lib.hasPrefix (s.data.toList.drop p) [39] with
        |true=>
         have HO2:=hJ (HO.out.trans (by rw [if_pos (.inl h39)]))
         clear HO
         go_upto_region 21 with (go_at_call 97;refine(ad4 b s _ _ _ HK.out.rd HK.out.le).mono ?_;rintro e w9 ⟨rfl,hb⟩;clear c0 c1 c2 c3 c4 f0 f1 f2 f3 f4;replace HK:=hJ (HK.out.bel hb);clear hb;obtain⟨c0,c1,c2,c3,c4,f0,f1,f2,f3,f4⟩:=RdAt.facts HK.out.rd)
         have hX:=fun W hx hr=>bb8 b s p line fl W hx hr hs hlt
         cases hXO:txt (s.data.toList.drop p) with
         |fine kd n=>
          have hkd:=bc0 hXO
          subst hkd
          rw [hXO] at hX
          simp only [TkB] at hX
          have HT:=hJ hX
          have HN:=hJ (show O= .fine 4 n by rw [HO2.out,hXO])
          clear hX HO2 hXO
          go_wp2_with (go_at_call 104;refine(HT.out _ HK.out.rd HK.out.rdy).mono ?_;rintro e w9 ⟨rfl,hst9⟩;clear c0 c1 c2 c3 c4 f0 f1 f2 f3 f4;replace HK:=hJ (HK.out.step hst9.rd hst9.but hst9.le);clear hst9;obtain⟨c0,c1,c2,c3,c4,f0,f1,f2,f3,f4⟩:=RdAt.facts HK.out.rd)
          go_ret2
          exact TkP.of_fine HN.out rfl HK.out
         |bad off code=>
          rw [hXO] at hX
          simp only [TkB] at hX
          have HT:=hJ hX
          have HN:=hJ (show O= .bad off code by rw [HO2.out,hXO])
          clear hX HO2 hXO
          go_wp2_with (go_at_call 104;refine(HT.out _ HK.out.rd HK.out.rdy).mono ?_;rintro e w9 ⟨x',rfl,hst9,hl9,hf9,hc9⟩)
          go_ret2
          exact TkP.of_odd HN.out (HK.out.step hst9.rd hst9.but hst9.le) hl9 hf9 hc9
        |false=>
         go_upto_region 20 with (go_at_call 97;refine(ad4 b s _ _ _ HK.out.rd HK.out.le).mono ?_;rintro e w9 ⟨rfl,hb⟩;clear c0 c1 c2 c3 c4 f0 f1 f2 f3 f4;replace HK:=hJ (HK.out.bel hb);clear hb;obtain⟨c0,c1,c2,c3,c4,f0,f1,f2,f3,f4⟩:=RdAt.facts HK.out.rd)
         cases h34:Lib.hasPrefix (s.data.toList.drop p) [34] with
         |true=>
          have HO2:=hJ (HO.out.trans (by rw [if_pos (.inr h34)]))
          clear HO
          go_upto_region 21 with (go_at_call 97;refine(ad4 b s _ _ _ HK.out.rd HK.out.le).mono ?_;rintro e w9 ⟨rfl,hb⟩;clear c0 c1 c2 c3 c4 f0 f1 f2 f3 f4;replace HK:=hJ (HK.out.bel hb);clear hb;obtain⟨c0,c1,c2,c3,c4,f0,f1,f2,f3,f4⟩:=RdAt.facts HK.out.rd)
          have hX:=fun W hx hr=>bb8 b s p line fl W hx hr hs hlt
          cases hXO:txt (s.data.toList.drop p) with
          |fine kd n=>
           have hkd:=bc0 hXO
           subst hkd
           rw [hXO] at hX
           simp only [TkB] at hX
           have HT:=hJ hX
           have HN:=hJ (show O= .fine 4 n by rw [HO2.out,hXO])
           clear hX HO2 hXO
           go_wp2_with (go_at_call 104;refine(HT.out _ HK.out.rd HK.out.rdy).mono ?_;rintro e w9 ⟨rfl,hst9⟩;clear c0 c1 c2 c3 c4 f0 f1 f2 f3 f4;replace HK:=hJ (HK.out.step hst9.rd hst9.but hst9.le);clear hst9;obtain⟨c0,c1,c2,c3,c4,f0,f1,f2,f3,f4⟩:=RdAt.facts HK.out.rd)
           go_ret2
           exact TkP.of_fine HN.out rfl HK.out
          |bad off code=>
           rw [hXO] at hX
           simp only [TkB] at hX
           have HT:=hJ hX
           have HN:=hJ (show O= .bad off code by rw [HO2.out,hXO])
           clear hX HO2 hXO
           go_wp2_with (go_at_call 104;refine(HT.out _ HK.out.rd HK.out.rdy).mono ?_;rintro e w9 ⟨x',rfl,hst9,hl9,hf9,hc9⟩)
           go_ret2
           exact TkP.of_odd HN.out (HK.out.step hst9.rd hst9.but hst9.le) hl9 hf9 hc9
         |false=>
          replace HO:=hJ (HO.out.trans (by rw [if_neg (by rw [h39,h34];decide)]))
          go_upto_region 22 with (go_at_call 97;refine(ad4 b s _ _ _ HK.out.rd HK.out.le).mono ?_;rintro e w9 ⟨rfl,hb⟩;clear c0 c1 c2 c3 c4 f0 f1 f2 f3 f4;replace HK:=hJ (HK.out.bel hb);clear hb;obtain⟨c0,c1,c2,c3,c4,f0,f1,f2,f3,f4⟩:=RdAt.facts HK.out.rd)
          cases hrx:decide (goal=2∧Lib.hasPrefix (s.data.toList.drop p) [47]=true) with
          |true=>
           obtain⟨rfl,h47⟩:=of_decide_eq_true hrx
           have HO2:=hJ (HO.out.trans (by rw [if_pos ⟨rfl,h47⟩]))
           clear HO hrx
           go_upto_region 23 with (go_at_call 97;refine(ad4 b s _ _ _ HK.out.rd HK.out.le).mono ?_;rintro e w9 ⟨rfl,hb⟩;clear c0 c1 c2 c3 c4 f0 f1 f2 f3 f4;replace HK:=hJ (HK.out.bel hb);clear hb;obtain⟨c0,c1,c2,c3,c4,f0,f1,f2,f3,f4⟩:=RdAt.facts HK.out.rd)
           have hX:=fun W hx hr=>bo9 b s p line fl W hx hr hs hlt
           cases hXO:rgx true false (s.data.toList.drop (p+1)) with
           |fine n h=>
            rw [hXO] at hX
            simp only [bh9] at hX
            have HT:=hJ hX
            have HO5:=hJ (show O=aft (s.data.toList.drop p) 6 (1+n) by rw [HO2.out,hXO];rfl)
            clear hX HO2 hXO
            by_cases hneg:(nx (s.data.toList.drop (p+1+n))).2<0
            ·have HN:=hJ (show O= .bad (1+n) 502 by rw [HO5.out];exact aC2 (by rw [List.drop_drop,←Nat.add_assoc];exact hneg))
             have HBR:=hJ hneg
             clear HO5 hneg
             go_wp2_with (first|(go_at_call 105;refine(HT.out _ HK.out.rd HK.out.rdy).mono ?_;rintro e w9 ⟨rfl,hst9⟩;clear c0 c1 c2 c3 c4 f0 f1 f2 f3 f4;replace HK:=hJ (HK.out.step hst9.rd hst9.but hst9.le);clear hst9;obtain⟨c0,c1,c2,c3,c4,f0,f1,f2,f3,f4⟩:=RdAt.facts HK.out.rd)|(go_at_call 101;refine(ak7 b s _ _ HK.out.rd HK.out.rdy HK.out.le HBR.out).mono ?_;rintro e w9 ⟨rfl,hx9,hb9⟩;clear c0 c1 c2 c3 c4 f0 f1 f2 f3 f4;replace HK:=hJ (HK.out.step hx9 hb9 HK.out.le);clear hx9 hb9;obtain⟨c0,c1,c2,c3,c4,f0,f1,f2,f3,f4⟩:=RdAt.facts HK.out.rd))
             go_ret2
             exact TkP.of_odd HN.out HK.out rfl (by first|rfl|(simp only;omega)) rfl
            ·have hpos:0≤(nx (s.data.toList.drop (p+1+n))).2:=by omega
             have HN:=hJ (show O= .fine 6 (1+n) by rw [HO5.out];exact au8 (by rw [List.drop_drop,←Nat.add_assoc];exact hpos))
             have HBR:=hJ hpos
             clear HO5 hneg hpos
             go_wp2_with (first|(go_at_call 105;refine(HT.out _ HK.out.rd HK.out.rdy).mono ?_;rintro e w9 ⟨rfl,hst9⟩;clear c0 c1 c2 c3 c4 f0 f1 f2 f3 f4;replace HK:=hJ (HK.out.step hst9.rd hst9.but hst9.le);clear hst9;obtain⟨c0,c1,c2,c3,c4,f0,f1,f2,f3,f4⟩:=RdAt.facts HK.out.rd)|(go_at_call 101;refine(aj2 b s _ _ HK.out.rd HK.out.rdy HK.out.le HBR.out).mono ?_;rintro e w9 ⟨rfl,hb⟩;clear c0 c1 c2 c3 c4 f0 f1 f2 f3 f4;replace HK:=hJ (HK.out.bel hb);clear hb;obtain⟨c0,c1,c2,c3,c4,f0,f1,f2,f3,f4⟩:=RdAt.facts HK.out.rd))
             go_ret2
             exact TkP.of_fine HN.out (by omega) HK.out
           |bad off code=>
            rw [hXO] at hX
            simp only [bh9] at hX
            have HT:=hJ hX
            have HN:=hJ (show O= .bad (if code=502 then 1+off else 0) code by rw [HO2.out,hXO];rfl)
            clear hX HO2 hXO
            go_wp2_with (go_at_call 105;refine(HT.out _ HK.out.rd HK.out.rdy).mono ?_;rintro e w9 ⟨x',rfl,hst9,hl9,hf9,hc9⟩)
            go_ret2
            exact TkP.of_odd HN.out (HK.out.step hst9.rd hst9.but hst9.le) hl9 (hf9.trans (aJ6 p off code)) hc9
          |false=>
           have hrx2:=of_decide_eq_false hrx
           replace HO:=hJ (HO.out.trans (by rw [if_neg hrx2]))
           go_cut [102] from 103 to 108 (fun v wx=>v= .bool false∧Tst b s w ⟨p,line,fl,0⟩ wx)
           case first=>
            rcases HGO.out with rfl|rfl
            ·clear HO hrx hrx2
             go_wp2_with fail
             go_meet
             exact⟨rfl,HK.out⟩
            ·cases h47:Lib.hasPrefix (s.data.toList.drop p) [47] with
             |true=>exact absurd ⟨rfl,h47⟩ hrx2
             |false=>
              clear HO hrx hrx2
              go_wp2_with (go_at_call 97;refine(ad4 b s _ _ _ HK.out.rd HK.out.le).mono ?_;rintro e w9 ⟨rfl,hb⟩;clear c0 c1 c2 c3 c4 f0 f1 f2 f3 f4;replace HK:=hJ (HK.out.bel hb);clear hb;obtain⟨c0,c1,c2,c3,c4,f0,f1,f2,f3,f4⟩:=RdAt.facts HK.out.rd)
              go_meet
              exact⟨by first|rfl|rw [h47],HK.out⟩
           case rest=>
            obtain⟨rfl,hst⟩:=hcut
            clear c0 c1 c2 c3 c4 f0 f1 f2 f3 f4 HK
            have HK:=hJ hst
            clear hst
            obtain⟨c0,c1,c2,c3,c4,f0,f1,f2,f3,f4⟩:=RdAt.facts HK.out.rd
            clear hrx hrx2
            by_cases hnm:0<(nx (s.data.toList.drop p)).2∧ae2 (nx (s.data.toList.drop p)).1=true
            ·have hn0:=aP1 (dash:=false) hnm
             have hnl:=ba6 false (s.data.toList.drop p)
             rw [List.length_drop,ofl] at hnl
             have HO4:=hJ (HO.out.trans (by rw [if_pos (by omega)]))
             have HNM:=hJ hnm
             obtain⟨m,hm⟩: ∃m,al5 false (s.data.toList.drop p)=m:=⟨_,rfl⟩
             have hqn:p+al5 false (s.data.toList.drop p)≤s.size:=by omega
             have hqm:p+m≤s.size:=by omega
             have HO5:=hJ (HO4.out.trans (by rw [hm]))
             have HM:=hJ hm
             clear HO HO4 hnm hn0 hnl hm
             go_upto_region 25 with (go_at_call 100;refine(ba8 b s _ _ _ HK.out.rd HK.out.rdy hs HK.out.le HNM.out).mono ?_;rintro e w9 ⟨rfl,hx9,hb9⟩;clear c0 c1 c2 c3 c4 f0 f1 f2 f3 f4;replace HK:=hJ (HK.out.step hx9 hb9 hqn);clear hx9 hb9;obtain⟨c0,c1,c2,c3,c4,f0,f1,f2,f3,f4⟩:=RdAt.facts HK.out.rd)
             rw [HM.out] at HK
             clear c0 c1 c2 c3 c4 f0 f1 f2 f3 f4
             obtain⟨c0,c1,c2,c3,c4,f0,f1,f2,f3,f4⟩:=RdAt.facts HK.out.rd
             by_cases hneg:(nx (s.data.toList.drop (p+m))).2<0
             ·have HN:=hJ (show O= .bad (m) 502 by rw [HO5.out];exact aC2 (by rw [List.drop_drop];first|exact hneg|(rw [←Nat.add_assoc];exact hneg)))
              have HBR:=hJ hneg
              clear HO5 hneg
              go_wp2_with (go_at_call 101;refine(ak7 b s _ _ HK.out.rd HK.out.rdy HK.out.le HBR.out).mono ?_;rintro e w9 ⟨rfl,hx9,hb9⟩;clear c0 c1 c2 c3 c4 f0 f1 f2 f3 f4;replace HK:=hJ (HK.out.step hx9 hb9 HK.out.le);clear hx9 hb9;obtain⟨c0,c1,c2,c3,c4,f0,f1,f2,f3,f4⟩:=RdAt.facts HK.out.rd)
              go_ret2
              exact TkP.of_odd HN.out HK.out rfl (by first|rfl|(simp only;omega)) rfl
             ·have hpos:0≤(nx (s.data.toList.drop (p+m))).2:=by omega
              have HN:=hJ (show O= .fine _ (m) by rw [HO5.out];exact au8 (by rw [List.drop_drop];first|exact hpos|(rw [←Nat.add_assoc];exact hpos)))
              have HBR:=hJ hpos
              clear HO5 hneg hpos
              go_wp2_with (go_at_call 101;refine(aj2 b s _ _ HK.out.rd HK.out.rdy HK.out.le HBR.out).mono ?_;rintro e w9 ⟨rfl,hb⟩;clear c0 c1 c2 c3 c4 f0 f1 f2 f3 f4;replace HK:=hJ (HK.out.bel hb);clear hb;obtain⟨c0,c1,c2,c3,c4,f0,f1,f2,f3,f4⟩:=RdAt.facts HK.out.rd)
              go_ret2
              exact TkP.of_fine HN.out (by omega) HK.out
            ·replace HO:=hJ (HO.out.trans (by rw [if_neg (fun h=>h (ba7 hnm))]))
             have HNM:=hJ hnm
             clear hnm
             go_upto_region 26 with (go_at_call 100;refine(bm6 b s _ _ _ HK.out.rd HK.out.rdy HK.out.le HNM.out).mono ?_;rintro e w9 ⟨rfl,hb⟩;clear c0 c1 c2 c3 c4 f0 f1 f2 f3 f4;replace HK:=hJ (HK.out.bel hb);clear hb;obtain⟨c0,c1,c2,c3,c4,f0,f1,f2,f3,f4⟩:=RdAt.facts HK.out.rd)
             have hpc:=fun W hx hr hS=>bo4 b s p line fl goal W hx hr hS hs hlt
             unfold au6 at hpc
             obtain⟨m,hm⟩: ∃m,pct goal (s.data.toList.drop p)=m:=⟨_,rfl⟩
             rw [hm] at hpc
             have HO5:=hJ (HO.out.trans (by rw [hm]))
             have HPC:=hJ hpc
             clear HO hpc hm
             by_cases hm0:m=0
             ·subst hm0
              have HO6:=hJ (HO5.out.trans (by rw [if_neg (by decide)]))
              clear HO5
              go_upto_region 28 with (go_at_call 106;refine(HPC.out _ HK.out.rd HK.out.rdy (HS.out.but hbl HK.out.but)).mono ?_;rintro e w9 ⟨rfl,hst9⟩;clear c0 c1 c2 c3 c4 f0 f1 f2 f3 f4;replace HK:=hJ (HK.out.step hst9.rd hst9.but hst9.le);clear hst9;obtain⟨c0,c1,c2,c3,c4,f0,f1,f2,f3,f4⟩:=RdAt.facts HK.out.rd)
              have HOD:=hJ (fun W hx hr=>bE8 b s p line fl W hx hr hp)
              unfold odd at HOD HO6
              generalize hoc:(if Lib.hasPrefix (s.data.toList.drop p) [92]=true then (508:Int) else 502)=oc at*
              clear hoc
              unfold TkB at HOD
              simp only at HOD
              go_wp2_with (go_at_call 98;refine(HOD.out _ HK.out.rd HK.out.rdy).mono ?_;rintro e w9 ⟨x',rfl,hst9,hl9,hf9,hc9⟩)
              go_ret2
              exact TkP.of_odd HO6.out (HK.out.step hst9.rd hst9.but hst9.le) hl9 hf9 hc9
             ·have HN:=hJ (show O= .fine 5 m by rw [HO5.out,if_pos hm0])
              have hdm:decide (m≠0)=true:=decide_eq_true hm0
              clear HO5 hm0
              go_wp2_with (go_at_call 106;refine(HPC.out _ HK.out.rd HK.out.rdy (HS.out.but hbl HK.out.but)).mono ?_;rintro e w9 ⟨rfl,hst9⟩;clear c0 c1 c2 c3 c4 f0 f1 f2 f3 f4;replace HK:=hJ (HK.out.step hst9.rd hst9.but hst9.le);clear hst9;obtain⟨c0,c1,c2,c3,c4,f0,f1,f2,f3,f4⟩:=RdAt.facts HK.out.rd)
              go_ret2
              exact TkP.of_fine HN.out rfl HK.out
end
section
open Go.RowKit
structure Nst (b g:Nat) (s:ByteArray) (w0:World) (x:Rd) (v:Value) (cs:List Cm) (w:World):Prop where
 rd:RdAt w b s x
 res:TkAt w g Tk.zero
 own:OwnC (b+1) w v cs
 bel:Below w0.heap.size w0 w
 rdy:ae6 b w
 spc:Spc b w
 gl:g<b
 gg:w0.heap.size≤g
theorem Nst.step {b g:Nat} {s:ByteArray} {w0 w w':World} {x y:Rd} {v:Value} {cs:List Cm} (h:Nst b g s w0 x v cs w) (hx:RdAt w' b s y) (hb:But b w w'):Nst b g s w0 y v cs w':=
 ⟨hx,h.res.but hb (Nat.ne_of_lt h.gl),bn6 h.own hb (Nat.lt_succ_self b),h.bel.trans (hb.below (by have:=h.gl;have:=h.gg;omega) h.bel.size),h.rdy.but h.rd.lt hb,h.spc.but h.rd.lt hb,h.gl,h.gg⟩
theorem Nst.next {b g:Nat} {s:ByteArray} {w0 w w':World} {x:Rd} {v:Value} {cs:List Cm} (h:Nst b g s w0 x v cs w) (hb:Below w.heap.size w w'):Nst b g s w0 x v cs w':=h.step (h.rd.bel hb) (.of_below hb)
theorem OwnC.lt {B:Nat} {w:World} {v:Value} {cs:List Cm} (h:OwnC B w v cs):v.ownBlock≠some w.heap.size:=by
 rcases h.2 with ⟨e,_⟩|⟨g,cap,cur,e,_,hh,_⟩
 ·rw [e];intro hc;cases hc
 ·rw [e]
  intro hc
  have h1:=(Array.getElem?_eq_some_iff.1 hh).1
  have h2:g=w.heap.size:=by injection hc
  omega
theorem OwnC.ne {B g:Nat} {w:World} {v:Value} {cs:List Cm} (h:OwnC B w v cs) (hg:g<B):v.ownBlock≠some g:=by
 rcases h.2 with ⟨e,_⟩|⟨g',cap,cur,e,h1,hh,_⟩
 ·rw [e];intro hc;cases hc
 ·rw [e]
  intro hc
  have h2:g'=g:=by injection hc
  omega
theorem OwnC.lay5 {B g:Nat} {w:World} {v:Value} {cs:List Cm} {u0 u1 u2 u3 u4:Value} (h:OwnC B w v cs) (hg:g<B):
  OwnC B (((((w.setCell ⟨g,0,none⟩ u0).setCell ⟨g,1,none⟩ u1).setCell ⟨g,2,none⟩ u2).setCell ⟨g,3,none⟩ u3).setCell ⟨g,4,none⟩ u4) v cs:=by
 have hn:=h.ne hg
 exact ah5 4 (ah5 3 (ah5 2 (ah5 1 (ah5 0 h hn) hn) hn) hn) hn
structure Nst2 (b g h:Nat) (s:ByteArray) (w0:World) (x:Rd) (v:Value) (cs:List Cm) (t:Tk) (w:World):Prop where
 n:Nst b g s w0 x v cs w
 tok:TkAt w h t
 bh:b<h
 vh:v.ownBlock≠some h
theorem Nst2.step {b g h:Nat} {s:ByteArray} {w0 w w':World} {x y:Rd} {v:Value} {cs:List Cm} {t:Tk} (k:Nst2 b g h s w0 x v cs t w) (hx:RdAt w' b s y) (hb:But b w w'):Nst2 b g h s w0 y v cs t w':=
 ⟨k.n.step hx hb,k.tok.but hb (Nat.ne_of_gt k.bh),k.bh,k.vh⟩
theorem Nst2.next {b g h:Nat} {s:ByteArray} {w0 w w':World} {x:Rd} {v:Value} {cs:List Cm} {t:Tk} (k:Nst2 b g h s w0 x v cs t w) (hb:Below w.heap.size w w'):Nst2 b g h s w0 x v cs t w':=k.step (k.n.rd.bel hb) (.of_below hb)
theorem Nst2.set {b g h:Nat} {s:ByteArray} {w0 w:World} {x:Rd} {v:Value} {cs:List Cm} {t y:Tk} (k:Nst2 b g h s w0 x v cs t w) (j:Nat) (u:Value) (hy:t.cells.setIfInBounds j u=y.cells):Nst2 b g h s w0 x v cs y (w.setCell ⟨h,j,none⟩ u):=by
 have hbl:Below b w (w.setCell ⟨h,j,none⟩ u):=(Below.refl b w).setCell (p:=⟨h,j,none⟩) (Nat.le_of_lt k.bh) u
 have h1:=k.bh
 have h2:=k.n.gl
 have h3:=k.n.gg
 exact⟨⟨k.n.rd.other (by omega) j u,k.n.res.other (by omega) j u,ah5 j k.n.own k.vh,k.n.bel.setCell (p:=⟨h,j,none⟩) (show w0.heap.size≤h by omega) u,k.n.rdy.bel hbl,k.n.spc.bel hbl,k.n.gl,k.n.gg⟩,k.tok.set j u hy,k.bh,k.vh⟩
theorem Nst.tok0 {b g:Nat} {s:ByteArray} {w0 w:World} {x:Rd} {v:Value} {cs:List Cm} (h:Nst b g s w0 x v cs w):Nst2 b g w.heap.size s w0 x v cs Tk.zero (w.alloc (.cells Tk.zero.cells 49)):=
 ⟨h.next (Below.alloc (Below.refl _ _) (Nat.le_refl _) _),bB0 w,h.rd.lt,h.own.lt⟩
theorem Nst.tokN {b g:Nat} {s:ByteArray} {w0 w:World} {x:Rd} {v:Value} {cs:List Cm} (h:Nst b g s w0 x v cs w) (t:Tk):Nst2 b g w.heap.size s w0 x v cs t (w.alloc (.cells t.cells 49)):=
 ⟨h.next (Below.alloc (Below.refl _ _) (Nat.le_refl _) _),heap_alloc_new _ _,h.rd.lt,h.own.lt⟩
theorem Nst2.drew {b g h:Nat} {s:ByteArray} {w0 w:World} {x:Rd} {v:Value} {cs:List Cm} {t:Tk} (k:Nst2 b g h s w0 x v cs t w):Nst2 b g h s w0 x v cs t w.drew:=k.next (Below.drew (Below.refl _ _))
theorem bK3 (w:World) (s:ByteArray) (x:Rd):RdAt (w.alloc (.cells (x.cells s) 89)) w.heap.size s x:=heap_alloc_new _ _
theorem Nst.start {s:ByteArray} {w w1:World} {p:Nat} (hk:TkAt w1 w.heap.size Tk.zero) (hb:Below w.heap.size w w1) (hl:w.heap.size<w1.heap.size) (hT:Lib.Utf8Tabs 3 4 w) (hM:aq1 w) (hS:Lib.TabIs Tryz.prog w "strings.asciiSpace" .u8 Lib.asciiSpaceTab):
  Nst w1.heap.size w.heap.size s w ⟨p,false,0,0⟩ (.slice none 0 0) [] (w1.alloc (.cells (Rd.cells s ⟨p,false,0,0⟩) 89)):=by
 have hb2:Below w.heap.size w (w1.alloc (.cells (Rd.cells s ⟨p,false,0,0⟩) 89)):=hb.alloc hb.size _
 exact⟨bK3 _ _ _,hk.bel (Below.alloc (Below.refl _ w1) (Nat.le_refl _) _),World.ownsRow_nil _ _ _ _,hb2,⟨w,hb.size,hT,hM,hb2⟩,⟨w,hb.size,hS,hb2⟩,hl,Nat.le_refl _⟩
theorem bJ4 {s:ByteArray} {p:Nat} {goal:Int} (h: ¬(goal<1∨5<goal∨(goal=3∧¬Lib.hasPrefix (s.data.toList.drop p) [125]=true))):
  nxt s p goal=match (if goal=3∨goal=4 then BtO.fine p false [] else btw s p false) with
  | .bad place code=> .bad place code
  | .fine q line cs=>match tokT goal (s.data.toList.drop q) with
   | .fine kind n=> .fine kind q n line cs
   | .bad off code=> .bad ((q+off:Nat):Int) code:=by
 unfold nxt
 rw [if_neg h]
 rfl
end
section
open Go.RowKit
theorem bw8 {s:ByteArray} {p q n:Nat} {goal kind:Int} {line:Bool} (hg:goal=1∨goal=2) (h:nxt s p goal= .fine kind q n line []):btw s p false= .fine q line []∧aA2 goal (s.data.toList.drop q)= .fine kind n:=by
 rw [bJ4 (by omega),if_neg (by omega)] at h
 cases hb:btw s p false with
 |bad a c=>rw [hb] at h;cases h
 |fine q' l' cs'=>
  rw [hb] at h
  simp only at h
  have ht:tokT goal (s.data.toList.drop q')=aA2 goal (s.data.toList.drop q'):=by rcases hg with rfl|rfl<;>rfl
  rw [ht] at h
  split at h
  ·rename_i h2
   injection h with e1 e2 e3 e4 e5
   subst e1 e2 e3 e4 e5
   exact⟨rfl,h2⟩
  ·cases h
theorem bE6 (s:ByteArray) (p q n:Nat) (goal kind:Int) (line:Bool) (w:World) (hs:s.size≤16777216) (hp:p≤s.size) (hT:Lib.Utf8Tabs 3 4 w) (hM:aq1 w) (hS:Lib.TabIs Tryz.prog w "strings.asciiSpace" .u8 Lib.asciiSpaceTab) (hg:goal=1∨goal=2) (hn:nxt s p goal= .fine kind q n line []):
   Calls Tryz.prog 32 #[.string s,.int .i64 p,.int .i64 goal] w fun e w'=>aH4 s w (.fine kind q n line []) e w':=by
 have hk:=bB0 w
 have hb:Below w.heap.size w (w.alloc (.cells Tk.zero.cells 49)):=Below.alloc (Below.refl _ w) (Nat.le_refl _) _
 have hl:w.heap.size<(w.alloc (.cells Tk.zero.cells 49)).heap.size:=by rw [World.size_alloc];omega
 have hn0:=Nst.start (s:=s) (p:=p) hk hb hl hT hM hS
 have hbb:(w.alloc (.cells Tk.zero.cells 49)).heap.size=w.heap.size+1:=World.size_alloc _ _
 have hbq:=bw8 hg hn
 have HTO:=hJ hbq.2
 have HBQ:=hJ hbq.1
 clear hbq
 clear hT hM hS hk hb hl hn
 unfold Tk.zero Tk.cells Rd.cells at hn0
 unfold Tk.zero Tk.cells at hbb
 simp only at hn0 hbb
 have hrp:=fun b W hx hr hS hql=>bg5 b s q line 0 goal hg W hx hr hS hs hql
 rw [HTO.out] at hrp
 simp only [TkP] at hrp
 have HRP:=hJ hrp
 clear hrp HTO
 rcases hg with rfl|rfl
 all_goals
  go_enter Tryz.func32,Tryz.ntmps32
  go_upto_region 5 with fail
  go_upto_region 8 with fail
  rw [hbb] at hn0
  generalize World.alloc (World.alloc _ _) _=w1 at*
  clear hbb
  generalize hgg:w.heap.size=g at*
  generalize hbbb:g+1=b at*
  have HN:=hJ hn0
  have HG:=hJ hgg
  clear hn0 hbbb
  clear hgg
  obtain⟨c0,c1,c2,c3,c4,f0,f1,f2,f3,f4⟩:=RdAt.facts HN.out.rd
  obtain⟨z0,z1,z2,z3,z4,y0,y1,y2,y3,y4⟩:=TkAt.facts HN.out.res
  have HBT:=hJ (aR9 b s p q false line 0 w1 HN.out.rd HN.out.rdy hs hp HBQ.out)
  clear HBQ
  go_upto_region 10 with (go_at_call 55;refine HBT.out.mono ?_;rintro e w9 ⟨v,rfl,hst9⟩;clear c0 c1 c2 c3 c4 f0 f1 f2 f3 f4 z0 z1 z2 z3 z4 y0 y1 y2 y3 y4;have hql:q≤s.size:=hst9.le;have hlw:=HN.out.rd.lt;replace HN:=hJ ({ HN.out.step hst9.rd hst9.but with own:=OwnC.mono hst9.own hlw });clear hst9 hlw;obtain⟨c0,c1,c2,c3,c4,f0,f1,f2,f3,f4⟩:=RdAt.facts HN.out.rd;obtain⟨z0,z1,z2,z3,z4,y0,y1,y2,y3,y4⟩:=TkAt.facts HN.out.res)
  have hzb:=HN.out.tokN ⟨0,⟨#[]⟩,((q:Nat):Int),0,line⟩
  unfold Tk.cells at hzb
  simp only at hzb
  have hza:=HN.out.tok0
  unfold Tk.zero Tk.cells at hza
  simp only at hza
  obtain⟨r0,r1,r2,r3,r4,q0,q1,q2,q3,q4⟩:=RdAt.facts hza.n.rd
  obtain⟨t0,t1,t2,t3,t4,u0',u1',u2',u3',u4'⟩:=TkAt.facts hza.tok
  go_cut [13] from 14 (fun u wx=> ∃h,u= .pointer (some ⟨h,0,none⟩)∧Nst2 b g h s w ⟨q,line,0,0⟩ (v) [] ⟨0,⟨#[]⟩,((q:Nat):Int),0,line⟩ wx)
  case first=>
    go_region
    all_goals go_wp2_with fail
    all_goals go_meet
    all_goals exact⟨_,rfl,hzb.drew⟩
  case' rest=>
    obtain⟨h,rfl,hn2⟩:=hcut
    clear c0 c1 c2 c3 c4 f0 f1 f2 f3 f4 z0 z1 z2 z3 z4 y0 y1 y2 y3 y4 HN r0 r1 r2 r3 r4 q0 q1 q2 q3 q4 t0 t1 t2 t3 t4 u0' u1' u2' u3' u4' hza hzb
    have HN:=hJ hn2
    clear hn2
    obtain⟨c0,c1,c2,c3,c4,f0,f1,f2,f3,f4⟩:=RdAt.facts HN.out.n.rd
    obtain⟨z0,z1,z2,z3,z4,y0,y1,y2,y3,y4⟩:=TkAt.facts HN.out.n.res
    obtain⟨d0,d1,d2,d3,d4,g0,g1,g2,g3,g4⟩:=TkAt.facts HN.out.tok
  have HTK:=hJ (fun W hx hr hS=>HRP.out b W hx hr hS hql)
  clear HRP
  go_upto_region 20 with (go_at_call 59;refine(HTK.out _ HN.out.n.rd HN.out.n.rdy HN.out.n.spc).mono ?_;rintro e w9 ⟨rfl,hst9⟩;clear c0 c1 c2 c3 c4 f0 f1 f2 f3 f4 z0 z1 z2 z3 z4 y0 y1 y2 y3 y4 d0 d1 d2 d3 d4 g0 g1 g2 g3 g4;have hqn9:q+n≤s.size:=hst9.le;replace HN:=hJ (HN.out.step hst9.rd hst9.but);clear hst9;obtain⟨c0,c1,c2,c3,c4,f0,f1,f2,f3,f4⟩:=RdAt.facts HN.out.n.rd;obtain⟨z0,z1,z2,z3,z4,y0,y1,y2,y3,y4⟩:=TkAt.facts HN.out.n.res;obtain⟨d0,d1,d2,d3,d4,g0,g1,g2,g3,g4⟩:=TkAt.facts HN.out.tok)
  obtain⟨c0,c1,c2,c3,c4,f0,f1,f2,f3,f4⟩:=RdAt.facts HN.out.n.rd
  obtain⟨z0,z1,z2,z3,z4,y0,y1,y2,y3,y4⟩:=TkAt.facts HN.out.n.res
  obtain⟨d0,d1,d2,d3,d4,g0,g1,g2,g3,g4⟩:=TkAt.facts HN.out.tok
  clear c0 c1 c2 c3 c4 f0 f1 f2 f3 f4 z0 z1 z2 z3 z4 y0 y1 y2 y3 y4 d0 d1 d2 d3 d4 g0 g1 g2 g3 g4
  have hn3:=HN.out.set 0 (.int .i64 kind) (y:=⟨kind,⟨#[]⟩,((q:Nat):Int),0,line⟩) rfl
  clear HN
  generalize World.setCell _ _ _=w5 at*
  have HN:=hJ hn3
  clear hn3
  obtain⟨c0,c1,c2,c3,c4,f0,f1,f2,f3,f4⟩:=RdAt.facts HN.out.n.rd
  obtain⟨z0,z1,z2,z3,z4,y0,y1,y2,y3,y4⟩:=TkAt.facts HN.out.n.res
  obtain⟨d0,d1,d2,d3,d4,g0,g1,g2,g3,g4⟩:=TkAt.facts HN.out.tok
  go_upto_region 23 with fail
  have hn3:=HN.out.set 3 (.int .i64 ((q:Int)+(n:Int))) (y:=⟨kind,⟨#[]⟩,((q:Nat):Int),(q:Int)+(n:Int),line⟩) rfl
  clear c0 c1 c2 c3 c4 f0 f1 f2 f3 f4 z0 z1 z2 z3 z4 y0 y1 y2 y3 y4 d0 d1 d2 d3 d4 g0 g1 g2 g3 g4
  clear HN
  generalize World.setCell _ _ _=w6 at*
  have HN:=hJ hn3
  clear hn3
  obtain⟨c0,c1,c2,c3,c4,f0,f1,f2,f3,f4⟩:=RdAt.facts HN.out.n.rd
  obtain⟨z0,z1,z2,z3,z4,y0,y1,y2,y3,y4⟩:=TkAt.facts HN.out.n.res
  obtain⟨d0,d1,d2,d3,d4,g0,g1,g2,g3,g4⟩:=TkAt.facts HN.out.tok
  go_upto_region 24 with fail
  have hn3:=HN.out.set 1 (.string (s.extract q (q+n))) (y:=⟨kind,s.extract q (q+n),((q:Nat):Int),(q:Int)+(n:Int),line⟩) rfl
  clear c0 c1 c2 c3 c4 f0 f1 f2 f3 f4 z0 z1 z2 z3 z4 y0 y1 y2 y3 y4 d0 d1 d2 d3 d4 g0 g1 g2 g3 g4
  clear HN
  generalize World.setCell _ _ _=w7 at*
  have HN:=hJ hn3
  clear hn3
  obtain⟨c0,c1,c2,c3,c4,f0,f1,f2,f3,f4⟩:=RdAt.facts HN.out.n.rd
  obtain⟨z0,z1,z2,z3,z4,y0,y1,y2,y3,y4⟩:=TkAt.facts HN.out.n.res
  obtain⟨d0,d1,d2,d3,d4,g0,g1,g2,g3,g4⟩:=TkAt.facts HN.out.tok
  go_wp2_with fail
  (try simp only [Exit.inBlock,Exit.then])
  refine bodyPost_ret (aX9 rfl _ _ _ _ rfl (TkAt.lay HN.out.n.res)) rfl ?_
  have hgl:=HN.out.n.gl
  have hgg:=HN.out.n.gg
  exact⟨_,by rw [show ((q+n:Nat):Int)=(q:Int)+(n:Int) by omega];rfl,(HN.out.n.own.lay5 (show g<b+1 by omega)).mono (show w.heap.size≤b+1 by have:=HG.out;omega),ay1 HN.out.n.bel hgg⟩
end
section
open Go.RowKit
structure Lx (w:World):Prop where
 tabs:Lib.Utf8Tabs 3 4 w
 max:aq1 w
 spc:Lib.TabIs Tryz.prog w "strings.asciiSpace" .u8 Lib.asciiSpaceTab
theorem Lx.bel {w w':World} (h:Lx w) (hb:Below w.heap.size w w'):Lx w':=
 ⟨Utf8Tabs_below h.tabs hb,h.max.below hb,Joins.tab_stays (g:=0) (by kernel_rfl) h.spc hb (Nat.le_refl _)⟩
theorem aY5 (s:ByteArray) (p:Nat) (goal:Int) (w:World) (hs:s.size≤16777216) (hp:p≤s.size) (hX:Lx w) (z:Int) (hz:z=p) {kind:Int} {q n:Nat} {line:Bool} (hn:nxt s p goal= .fine kind q n line []) (hg:goal=1∨goal=2:=by decide):
  Calls Tryz.prog 32 #[.string s,.int .i64 z,.int .i64 goal] w fun e w'=>aH4 s w (.fine kind q n line []) e w':=by
 subst hz
 exact bE6 s p q n goal kind line w hs hp hX.tabs hX.max hX.spc hg hn
theorem aN1: ∀(cs:List Cm) (i j:Nat) (hi:i<cs.length),j<4→(as8 cs)[i*4+j]? =(aq7 cs[i])[j]?
 | [],_,_,h,_=>absurd h (by simp)
 |c::cs,0,j,_,hj=>by
  simp only [as8,List.flatMap_cons,Nat.zero_mul,Nat.zero_add,List.getElem_cons_zero]
  rw [List.getElem?_append_left (by simp [aq7];omega)]
 |c::cs,i+1,j,hi,hj=>by
  have h:=aN1 cs i j (by simpa using hi) hj
  simp only [as8,List.flatMap_cons,List.getElem_cons_succ] at h⊢
  rw [List.getElem?_append_right (by simp [aq7];omega),show(i+1)*4+j - (aq7 c).length=i*4+j by simp [aq7];omega]
  exact h
theorem OwnC.form {B:Nat} {w:World} {v:Value} {cs:List Cm} (h:OwnC B w v cs): ∃p cap,v= .slice p cs.length cap:=by
 rcases h.2 with ⟨e,hn⟩|⟨g,cap,cur,e,_⟩
 ·exact⟨none,0,by rw [e,hn]⟩
 ·exact⟨_,cap,e⟩
theorem OwnC.slice {B:Nat} {w:World} {v:Value} {cs:List Cm} (h:OwnC B w v cs) (hc:cs≠ []): ∃g cap,v= .slice (some ⟨g,0,none⟩) cs.length cap∧B≤g∧g<w.heap.size∧cs.length≤cap∧∀i j,(hi:i<cs.length)→j<4→w.cell? ⟨g,i*4+j,none⟩=(aq7 cs[i])[j]? :=by
 rcases h.2 with ⟨e,hn⟩|⟨g,cap,cur,e,h1,h2,h3,h4,h5,h6⟩
 ·exact absurd (List.length_eq_zero_iff.1 hn) hc
 ·refine⟨g,cap,e,h1,(Array.getElem?_eq_some_iff.1 h2).1,h3,fun i j hi hj=> ?_⟩
  rw [←aN1 cs i j hi hj,←h6]
  simp only [World.cell?]
  rw [h2]
  simp only
  rw [List.getElem?_take,if_pos (show i*4+j<cs.length*4 by omega)]
  simp
theorem OwnC.bel {B:Nat} {w w':World} {v:Value} {cs:List Cm} (h:OwnC B w v cs) (hb:Below w.heap.size w w'):OwnC B w' v cs:=aE7 h hb
end
end Go.Proofs.YtnobjeelihkjmaaGreatDoor
