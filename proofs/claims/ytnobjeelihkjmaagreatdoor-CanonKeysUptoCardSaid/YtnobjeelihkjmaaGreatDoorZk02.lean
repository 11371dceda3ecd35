/- Steps (LE LF LG LH LI LJ LK). Conditions: as stated. -/
import Derived.Test.YtnobjeelihkjmaaGreatDoorZk01
set_option maxHeartbeats 4000000
set_option maxRecDepth 20000
namespace Go.Proofs.YtnobjeelihkjmaaGreatDoor
section
open Go.RowKit
def aO6 (s:ByteArray):Nat:=if (ak3 s).2.2=true then s.size - (ak3 s).2.1.size else 0
theorem bg9 (s:ByteArray):(ak3 s).2.1.size≤s.size:=by
 unfold ak3
 cases ho:an7 s with
 |true=>
  rw [if_pos rfl]
  unfold aF8
  simp only
  have h1:=(al8 (s.data.toList[1]!.toNat|||32) (s.extract 2 s.size)).1
  rw [ByteArray.size_extract] at h1
  have h2:(Lib.trimPrefix (runB (s.data.toList[1]!.toNat|||32) (s.extract 2 s.size)).2.data.toList [110]).length≤(runB (s.data.toList[1]!.toNat|||32) (s.extract 2 s.size)).2.size:=by
   unfold Lib.trimPrefix
   split
   ·rw [List.length_drop,ofl];omega
   ·rw [ofl];exact Nat.le_refl _
  generalize Lib.trimPrefix (runB (s.data.toList[1]!.toNat|||32) (s.extract 2 s.size)).2.data.toList [110]=l at*
  rw [←ofl]
  simp only
  omega
 |false=>
  rw [if_neg (by decide)]
  unfold aF7
  have h1:=au4 s
  have h2:=ay7 (ac3 s).2
  simp only
  split
  ·simp only;omega
  ·simp only
   have h3:=aN7 (ai2 (ac3 s).1 (ag6 (ac3 s).2).1 (ag6 (ac3 s).2).2.1) (ag6 (ac3 s).2).2.2
   have h4: ∀(x:Lit) (r:ByteArray),(bigL x r).2.size≤r.size:=fun x r=>by
    unfold bigL
    split
    ·simp only [ByteArray.size_extract];omega
    ·exact Nat.le_refl _
   have h5:=h4 (expL (ai2 (ac3 s).1 (ag6 (ac3 s).2).1 (ag6 (ac3 s).2).2.1) (ag6 (ac3 s).2).2.2).1 (expL (ai2 (ac3 s).1 (ag6 (ac3 s).2).1 (ag6 (ac3 s).2).2.1) (ag6 (ac3 s).2).2.2).2
   omega
theorem bv5 (s:ByteArray):aO6 s≤s.size:=by unfold aO6;split<;>omega
theorem aD9 (s:ByteArray) (w:World) (hs:s.size≤16777216) (hM:aq1 w):
  Calls Tryz.prog 168 #[.string s] w fun e w'=>e= .returned (.int .i64 (aO6 s:Nat))∧Below w.heap.size w w':=by
 have hS:=bb6 s w hs hM
 have hz:=bg9 s
 have hl:aO6 s=if (ak3 s).2.2=true then s.size - (ak3 s).2.1.size else 0:=rfl
 generalize aO6 s=L at*
 generalize ak3 s=q at*
 obtain⟨x,r,f⟩:=q
 obtain⟨base,whole,point,part,ex,minus,power,big⟩:=x
 unfold Lit.val Lit.cells at hS
 simp only at hS hz hl
 have HS:=hJ hS
 clear hS hM
 cases f with
 |true=>
  rw [if_pos rfl] at hl
  have HL:=hJ hl
  clear hl
  go_enter Tryz.func168,Tryz.ntmps168
  go_wp2_with (go_at_call 116;refine HS.out.mono ?_;rintro e w1 ⟨rfl,hb1⟩)
  go_ret
  refine⟨?_,ai0 hb1 _⟩
  rw [HL.out]
  refine bG0 ?_
  omega
 |false=>
  rw [if_neg (by decide)] at hl
  have HL:=hJ hl
  clear hl
  go_enter Tryz.func168,Tryz.ntmps168
  go_wp2_with (go_at_call 116;refine HS.out.mono ?_;rintro e w1 ⟨rfl,hb1⟩)
  go_ret
  refine⟨?_,ai0 hb1 _⟩
  rw [HL.out]
  rfl
def al4 (l:List UInt8):Nat:=aO6 ⟨l.toArray⟩
def numL (l:List UInt8):Nat:=if 0<(nx (l.drop (al4 l))).2∧(ae2 (nx (l.drop (al4 l))).1=true∨ak5 (l.drop (al4 l))=true) then 0 else al4 l
theorem aB6 (l:List UInt8):al4 l≤l.length:=bv5 ⟨l.toArray⟩
theorem aI6 (b:Nat) (s:ByteArray) (x:Rd) (w:World) (hx:RdAt w b s x) (hr:ae6 b w) (hs:s.size≤16777216) (hp:x.at'≤s.size) (hk:numL (s.data.toList.drop x.at')=0):
  Calls Tryz.prog 103 #[.pointer (some ⟨b,0,none⟩)] w fun e w'=>e= .returned (.bool false)∧RdAt w' b s { x with fail:=x.at',code:=503 } ∧But b w w':=by
 obtain⟨p,line,fl,cd⟩:=x
 simp only at hp hk⊢
 have hLo:=fun W h=>aD9 (s.extract p s.size) W (by rw [ByteArray.size_extract];omega) h
 have hll:aO6 (s.extract p s.size)=al4 (s.data.toList.drop p):=by unfold al4;rw [ab9 (s.extract p s.size) (s.data.toList.drop p) (af9 s p)]
 rw [hll] at hLo
 have hle:=aB6 (s.data.toList.drop p)
 rw [List.length_drop,ofl] at hle
 have hnum:numL (s.data.toList.drop p)=if 0<(nx (s.data.toList.drop (p+al4 (s.data.toList.drop p)))).2∧(ae2 (nx (s.data.toList.drop (p+al4 (s.data.toList.drop p)))).1=true∨ak5 (s.data.toList.drop (p+al4 (s.data.toList.drop p)))=true) then 0 else al4 (s.data.toList.drop p):=by
  unfold numL
  rw [List.drop_drop]
 have hNx:=fun W h z hz=>aB7 s (p+al4 (s.data.toList.drop p)) W (by omega) h z hz
 have hDg:=fun W z hz=>an9 s (p+al4 (s.data.toList.drop p)) W z hz
 generalize hm:al4 (s.data.toList.drop p)=m at*
 generalize (nx (s.data.toList.drop (p+m))).1=c at*
 generalize (nx (s.data.toList.drop (p+m))).2=n at*
 have hSt:=fun W=>am0 c W
 generalize hdg:ak5 (s.data.toList.drop (p+m))=dg at*
 generalize hst:ae2 c=st at*
 generalize numL (s.data.toList.drop p)=k at*
 have HLo:=hJ hLo
 have HNx:=hJ hNx
 have HDg:=hJ hDg
 have HSt:=hJ hSt
 have HX:=hJ hx
 have HR:=hJ hr
 have hbl:=hx.lt
 clear hLo hNx hDg hSt hx hr hll hm hdg hst
 have hcase:(m=0∧k=0)∨(0<m∧0<n∧st=true∧k=0)∨(0<m∧0<n∧st=false∧dg=true∧k=0)∨(0<m∧0<n∧st=false∧dg=false∧k=m)∨(0<m∧n≤0∧k=m):=by
  by_cases hm0:m=0
  ·subst hm0
   refine .inl ⟨rfl,?_⟩
   rw [hnum];split<;>rfl
  ·by_cases hn0:0<n
   ·cases hst:st with
    |true=>exact .inr (.inl ⟨by omega,hn0,rfl,by rw [hnum,if_pos ⟨hn0,.inl hst⟩]⟩)
    |false=>
     cases hdg:dg with
     |true=>exact .inr (.inr (.inl ⟨by omega,hn0,rfl,rfl,by rw [hnum,if_pos ⟨hn0,.inr hdg⟩]⟩))
     |false=>exact .inr (.inr (.inr (.inl ⟨by omega,hn0,rfl,rfl,by rw [hnum,if_neg];rintro⟨_,h|h⟩;exact absurd (hst.symm.trans h) (by decide);exact absurd (hdg.symm.trans h) (by decide)⟩)))
   ·exact .inr (.inr (.inr (.inr ⟨by omega,by omega,by rw [hnum,if_neg (fun h=>hn0 h.1)]⟩)))
 clear hnum
 rcases hcase with ⟨rfl,rfl⟩|⟨h1,h2,rfl,rfl⟩|⟨h1,h2,rfl,rfl,rfl⟩|⟨h1,h2,rfl,rfl,rfl⟩|⟨h1,h2,rfl⟩
 ·clear hk
  obtain⟨c0,c1,c2,c3,c4,f0,f1,f2,f3,f4⟩:=RdAt.facts HX.out
  go_enter Tryz.func103,Tryz.ntmps103
  go_upto_region 3 with (go_at_call 168;refine(HLo.out _ HR.out.max).mono ?_;rintro e w1 ⟨rfl,hb1⟩)
  have HX1:=hJ (HX.out.bel hb1)
  have HR1:=hJ (HR.out.next hbl hb1)
  have hB1:=But.of_below (b:=b) hb1
  clear c0 c1 c2 c3 c4 f0 f1 f2 f3 f4 HX HR hb1
  obtain⟨c0,c1,c2,c3,c4,f0,f1,f2,f3,f4⟩:=RdAt.facts HX1.out
  go_upto_region 4 with (go_at_call 162;refine(HNx.out _ HR1.out.tabs _ (by omega)).mono ?_;rintro e w2 ⟨rfl,hb2⟩)
  have HX2:=hJ (HX1.out.bel hb2)
  have hB2:=hB1.bel hb2
  clear c0 c1 c2 c3 c4 f0 f1 f2 f3 f4 HX1 HR1 hB1 hb2
  obtain⟨c0,c1,c2,c3,c4,f0,f1,f2,f3,f4⟩:=RdAt.facts HX2.out
  go_wp2_with (go_at_call 99;refine(ae5 b s _ _ _ _ HX2.out).mono ?_;rintro e w5 ⟨rfl,hx5,hb5⟩)
  go_ret
  exact⟨rfl,hx5,hB2.trans hb5⟩
 ·clear hk
  have hne:(((p:Nat):Int)+((m:Nat):Int)==(p:Int))=false:=by rw [beq_eq_false_iff_ne];omega
  obtain⟨c0,c1,c2,c3,c4,f0,f1,f2,f3,f4⟩:=RdAt.facts HX.out
  go_enter Tryz.func103,Tryz.ntmps103
  go_upto_region 3 with (go_at_call 168;refine(HLo.out _ HR.out.max).mono ?_;rintro e w1 ⟨rfl,hb1⟩)
  have HX1:=hJ (HX.out.bel hb1)
  have HR1:=hJ (HR.out.next hbl hb1)
  have hB1:=But.of_below (b:=b) hb1
  clear c0 c1 c2 c3 c4 f0 f1 f2 f3 f4 HX HR hb1
  obtain⟨c0,c1,c2,c3,c4,f0,f1,f2,f3,f4⟩:=RdAt.facts HX1.out
  go_upto_region 4 with (go_at_call 162;refine(HNx.out _ HR1.out.tabs _ (by omega)).mono ?_;rintro e w2 ⟨rfl,hb2⟩)
  have HX2:=hJ (HX1.out.bel hb2)
  have hB2:=hB1.bel hb2
  clear c0 c1 c2 c3 c4 f0 f1 f2 f3 f4 HX1 HR1 hB1 hb2
  obtain⟨c0,c1,c2,c3,c4,f0,f1,f2,f3,f4⟩:=RdAt.facts HX2.out
  go_wp2_with (first|(go_at_call 166;refine(HSt.out _).mono ?_;rintro e w3 ⟨rfl,hb3⟩;have HX3:=hJ (HX2.out.bel hb3);have hB3:=hB2.bel hb3;clear c0 c1 c2 c3 c4 f0 f1 f2 f3 f4;obtain⟨c0,c1,c2,c3,c4,f0,f1,f2,f3,f4⟩:=RdAt.facts HX3.out)|(go_at_call 99;refine(ae5 b s _ _ _ _ HX3.out).mono ?_;rintro e w5 ⟨rfl,hx5,hb5⟩))
  go_ret
  exact⟨rfl,hx5,hB3.trans hb5⟩
 ·clear hk
  have hne:(((p:Nat):Int)+((m:Nat):Int)==(p:Int))=false:=by rw [beq_eq_false_iff_ne];omega
  obtain⟨c0,c1,c2,c3,c4,f0,f1,f2,f3,f4⟩:=RdAt.facts HX.out
  go_enter Tryz.func103,Tryz.ntmps103
  go_upto_region 3 with (go_at_call 168;refine(HLo.out _ HR.out.max).mono ?_;rintro e w1 ⟨rfl,hb1⟩)
  have HX1:=hJ (HX.out.bel hb1)
  have HR1:=hJ (HR.out.next hbl hb1)
  have hB1:=But.of_below (b:=b) hb1
  clear c0 c1 c2 c3 c4 f0 f1 f2 f3 f4 HX HR hb1
  obtain⟨c0,c1,c2,c3,c4,f0,f1,f2,f3,f4⟩:=RdAt.facts HX1.out
  go_upto_region 4 with (go_at_call 162;refine(HNx.out _ HR1.out.tabs _ (by omega)).mono ?_;rintro e w2 ⟨rfl,hb2⟩)
  have HX2:=hJ (HX1.out.bel hb2)
  have hB2:=hB1.bel hb2
  clear c0 c1 c2 c3 c4 f0 f1 f2 f3 f4 HX1 HR1 hB1 hb2
  obtain⟨c0,c1,c2,c3,c4,f0,f1,f2,f3,f4⟩:=RdAt.facts HX2.out
  go_wp2_with (first|(go_at_call 166;refine(HSt.out _).mono ?_;rintro e w3 ⟨rfl,hb3⟩;have HX3:=hJ (HX2.out.bel hb3);have hB3:=hB2.bel hb3;clear c0 c1 c2 c3 c4 f0 f1 f2 f3 f4;obtain⟨c0,c1,c2,c3,c4,f0,f1,f2,f3,f4⟩:=RdAt.facts HX3.out)|(go_at_call 102;refine(HDg.out _ _ (by omega)).mono ?_;rintro e w4 ⟨rfl,rfl⟩)|(go_at_call 99;refine(ae5 b s _ _ _ _ HX3.out).mono ?_;rintro e w5 ⟨rfl,hx5,hb5⟩))
  go_ret
  exact⟨rfl,hx5,hB3.trans hb5⟩
 ·omega
 ·omega
theorem ap4 (b:Nat) (s:ByteArray) (x:Rd) (w:World) (hx:RdAt w b s x) (hr:ae6 b w) (hs:s.size≤16777216) (hp:x.at'≤s.size) (hk:0<numL (s.data.toList.drop x.at')):
  Calls Tryz.prog 103 #[.pointer (some ⟨b,0,none⟩)] w fun e w'=>e= .returned (.bool true)∧RdAt w' b s { x with at':=x.at'+numL (s.data.toList.drop x.at') } ∧But b w w':=by
 obtain⟨p,line,fl,cd⟩:=x
 simp only at hp hk⊢
 have hLo:=fun W h=>aD9 (s.extract p s.size) W (by rw [ByteArray.size_extract];omega) h
 have hll:aO6 (s.extract p s.size)=al4 (s.data.toList.drop p):=by unfold al4;rw [ab9 (s.extract p s.size) (s.data.toList.drop p) (af9 s p)]
 rw [hll] at hLo
 have hle:=aB6 (s.data.toList.drop p)
 rw [List.length_drop,ofl] at hle
 have hnum:numL (s.data.toList.drop p)=if 0<(nx (s.data.toList.drop (p+al4 (s.data.toList.drop p)))).2∧(ae2 (nx (s.data.toList.drop (p+al4 (s.data.toList.drop p)))).1=true∨ak5 (s.data.toList.drop (p+al4 (s.data.toList.drop p)))=true) then 0 else al4 (s.data.toList.drop p):=by
  unfold numL
  rw [List.drop_drop]
 have hNx:=fun W h z hz=>aB7 s (p+al4 (s.data.toList.drop p)) W (by omega) h z hz
 have hDg:=fun W z hz=>an9 s (p+al4 (s.data.toList.drop p)) W z hz
 generalize hm:al4 (s.data.toList.drop p)=m at*
 generalize (nx (s.data.toList.drop (p+m))).1=c at*
 generalize (nx (s.data.toList.drop (p+m))).2=n at*
 have hSt:=fun W=>am0 c W
 generalize hdg:ak5 (s.data.toList.drop (p+m))=dg at*
 generalize hst:ae2 c=st at*
 generalize numL (s.data.toList.drop p)=k at*
 have HLo:=hJ hLo
 have HNx:=hJ hNx
 have HDg:=hJ hDg
 have HSt:=hJ hSt
 have HX:=hJ hx
 have HR:=hJ hr
 have hbl:=hx.lt
 clear hLo hNx hDg hSt hx hr hll hm hdg hst
 have hcase:(m=0∧k=0)∨(0<m∧0<n∧st=true∧k=0)∨(0<m∧0<n∧st=false∧dg=true∧k=0)∨(0<m∧0<n∧st=false∧dg=false∧k=m)∨(0<m∧n≤0∧k=m):=by
  by_cases hm0:m=0
  ·subst hm0
   refine .inl ⟨rfl,?_⟩
   rw [hnum];split<;>rfl
  ·by_cases hn0:0<n
   ·cases hst:st with
    |true=>exact .inr (.inl ⟨by omega,hn0,rfl,by rw [hnum,if_pos ⟨hn0,.inl hst⟩]⟩)
    |false=>
     cases hdg:dg with
     |true=>exact .inr (.inr (.inl ⟨by omega,hn0,rfl,rfl,by rw [hnum,if_pos ⟨hn0,.inr hdg⟩]⟩))
     |false=>exact .inr (.inr (.inr (.inl ⟨by omega,hn0,rfl,rfl,by rw [hnum,if_neg];rintro⟨_,h|h⟩;exact absurd (hst.symm.trans h) (by decide);exact absurd (hdg.symm.trans h) (by decide)⟩)))
   ·exact .inr (.inr (.inr (.inr ⟨by omega,by omega,by rw [hnum,if_neg (fun h=>hn0 h.1)]⟩)))
 clear hnum
 rcases hcase with ⟨rfl,rfl⟩|⟨h1,h2,rfl,rfl⟩|⟨h1,h2,rfl,rfl,rfl⟩|⟨h1,h2,rfl,rfl,rfl⟩|⟨h1,h2,rfl⟩
 ·omega
 ·omega
 ·omega
 ·clear hk
  have hne:(((p:Nat):Int)+((k:Nat):Int)==(p:Int))=false:=by rw [beq_eq_false_iff_ne];omega
  obtain⟨c0,c1,c2,c3,c4,f0,f1,f2,f3,f4⟩:=RdAt.facts HX.out
  go_enter Tryz.func103,Tryz.ntmps103
  go_upto_region 3 with (go_at_call 168;refine(HLo.out _ HR.out.max).mono ?_;rintro e w1 ⟨rfl,hb1⟩)
  have HX1:=hJ (HX.out.bel hb1)
  have HR1:=hJ (HR.out.next hbl hb1)
  have hB1:=But.of_below (b:=b) hb1
  clear c0 c1 c2 c3 c4 f0 f1 f2 f3 f4 HX HR hb1
  obtain⟨c0,c1,c2,c3,c4,f0,f1,f2,f3,f4⟩:=RdAt.facts HX1.out
  go_upto_region 4 with (go_at_call 162;refine(HNx.out _ HR1.out.tabs _ (by omega)).mono ?_;rintro e w2 ⟨rfl,hb2⟩)
  have HX2:=hJ (HX1.out.bel hb2)
  have hB2:=hB1.bel hb2
  clear c0 c1 c2 c3 c4 f0 f1 f2 f3 f4 HX1 HR1 hB1 hb2
  obtain⟨c0,c1,c2,c3,c4,f0,f1,f2,f3,f4⟩:=RdAt.facts HX2.out
  go_wp2_with (first|(go_at_call 166;refine(HSt.out _).mono ?_;rintro e w3 ⟨rfl,hb3⟩;have HX3:=hJ (HX2.out.bel hb3);have hB3:=hB2.bel hb3;clear c0 c1 c2 c3 c4 f0 f1 f2 f3 f4;obtain⟨c0,c1,c2,c3,c4,f0,f1,f2,f3,f4⟩:=RdAt.facts HX3.out)|(go_at_call 102;refine(HDg.out _ _ (by omega)).mono ?_;rintro e w4 ⟨rfl,rfl⟩))
  go_ret
  exact⟨rfl,RdAt.set (x:=⟨p,line,fl,cd⟩) HX3.out 0 _ rfl,hB3.setCell 0 _⟩
 ·clear hk
  have hne:(((p:Nat):Int)+((k:Nat):Int)==(p:Int))=false:=by rw [beq_eq_false_iff_ne];omega
  obtain⟨c0,c1,c2,c3,c4,f0,f1,f2,f3,f4⟩:=RdAt.facts HX.out
  go_enter Tryz.func103,Tryz.ntmps103
  go_upto_region 3 with (go_at_call 168;refine(HLo.out _ HR.out.max).mono ?_;rintro e w1 ⟨rfl,hb1⟩)
  have HX1:=hJ (HX.out.bel hb1)
  have HR1:=hJ (HR.out.next hbl hb1)
  have hB1:=But.of_below (b:=b) hb1
  clear c0 c1 c2 c3 c4 f0 f1 f2 f3 f4 HX HR hb1
  obtain⟨c0,c1,c2,c3,c4,f0,f1,f2,f3,f4⟩:=RdAt.facts HX1.out
  go_upto_region 4 with (go_at_call 162;refine(HNx.out _ HR1.out.tabs _ (by omega)).mono ?_;rintro e w2 ⟨rfl,hb2⟩)
  have HX2:=hJ (HX1.out.bel hb2)
  have hB2:=hB1.bel hb2
  clear c0 c1 c2 c3 c4 f0 f1 f2 f3 f4 HX1 HR1 hB1 hb2
  obtain⟨c0,c1,c2,c3,c4,f0,f1,f2,f3,f4⟩:=RdAt.facts HX2.out
  go_wp2_with fail
  go_ret
  exact⟨rfl,RdAt.set (x:=⟨p,line,fl,cd⟩) HX2.out 0 _ rfl,hB2.setCell 0 _⟩
end
section
open Go.RowKit
structure Cm where
 kind:Int
 text:ByteArray
 from':Int
 till:Int
def Cm.cells (x:Cm):Array Value:= #[.int .i64 x.kind,.string x.text,.int .i64 x.from',.int .i64 x.till]
def Cm.val (x:Cm):Value:= .agg x.cells
def CmAt (w:World) (g:Nat) (x:Cm):Prop:=w.heap[g]? =some (.cells x.cells 132 (0,0))
theorem CmAt.lt {w:World} {g:Nat} {x:Cm} (h:CmAt w g x):g<w.heap.size:=(Array.getElem?_eq_some_iff.1 h).1
theorem CmAt.bel {w w':World} {g:Nat} {x:Cm} (h:CmAt w g x) (hb:Below w.heap.size w w'):CmAt w' g x:=(hb.block g h.lt).trans h
theorem CmAt.but {w w':World} {g b:Nat} {x:Cm} (h:CmAt w g x) (hb:But b w w') (hg:g≠b):CmAt w' g x:=(hb.block g h.lt hg).trans h
theorem CmAt.cell {w:World} {g:Nat} {x:Cm} (h:CmAt w g x) (k:Nat):w.cell? ⟨g,k,none⟩=x.cells[k]? :=by
 unfold CmAt at h
 simp [World.cell?,h]
theorem CmAt.frozen {w:World} {g:Nat} {x:Cm} (h:CmAt w g x) (k:Nat):w.frozen? ⟨g,k,none⟩=false:=frozen_of_row w g k x.cells _ h
theorem CmAt.set {w:World} {g:Nat} {x y:Cm} (h:CmAt w g x) (k:Nat) (v:Value) (hy:x.cells.setIfInBounds k v=y.cells):CmAt (w.setCell ⟨g,k,none⟩ v) g y:=by
 have:=heap_setCell_same w g k x.cells 132 v h
 rw [hy] at this
 exact this
theorem CmAt.other {w:World} {g b:Nat} {x:Cm} (h:CmAt w g x) (hb:g≠b) (k:Nat) (v:Value):CmAt (w.setCell ⟨b,k,none⟩ v) g x:=(Below.heap_setCell _ _ _ _ hb).trans h
theorem RdAt.other {w:World} {g b:Nat} {s:ByteArray} {x:Rd} (h:RdAt w b s x) (hb:b≠g) (k:Nat) (v:Value):RdAt (w.setCell ⟨g,k,none⟩ v) b s x:=(Below.heap_setCell _ _ _ _ hb).trans h
theorem CmAt.facts {w:World} {g:Nat} {kind from' till:Int} {text:ByteArray} (h:CmAt w g ⟨kind,text,from',till⟩):
  w.cell? ⟨g,0,none⟩=some (.int .i64 kind)∧w.cell? ⟨g,1,none⟩=some (.string text)∧w.cell? ⟨g,2,none⟩=some (.int .i64 from')∧w.cell? ⟨g,3,none⟩=some (.int .i64 till)∧
  w.frozen? ⟨g,0,none⟩=false∧w.frozen? ⟨g,1,none⟩=false∧w.frozen? ⟨g,2,none⟩=false∧w.frozen? ⟨g,3,none⟩=false:=
 ⟨h.cell 0,h.cell 1,h.cell 2,h.cell 3,h.frozen 0,h.frozen 1,h.frozen 2,h.frozen 3⟩
theorem CmAt.lay {w:World} {g:Nat} {k0 f0 t0 kind from' till:Int} {x0 text:ByteArray} (h:CmAt w g ⟨k0,x0,f0,t0⟩):
  CmAt ((((w.setCell ⟨g,0,none⟩ (.int .i64 kind)).setCell ⟨g,1,none⟩ (.string text)).setCell ⟨g,2,none⟩ (.int .i64 from')).setCell ⟨g,3,none⟩ (.int .i64 till)) g ⟨kind,text,from',till⟩:=
 CmAt.set (x:=⟨kind,text,from',t0⟩) (CmAt.set (x:=⟨kind,text,f0,t0⟩) (CmAt.set (x:=⟨kind,x0,f0,t0⟩) (CmAt.set (x:=⟨k0,x0,f0,t0⟩) h 0 _ rfl) 1 _ rfl) 2 _ rfl) 3 _ rfl
theorem bB5 {w w':World} {b g:Nat} {kind from' till:Int} {text:ByteArray} (h:But b w w') (hg:w.heap.size≤g):
  But b w ((((w'.setCell ⟨g,0,none⟩ (.int .i64 kind)).setCell ⟨g,1,none⟩ (.string text)).setCell ⟨g,2,none⟩ (.int .i64 from')).setCell ⟨g,3,none⟩ (.int .i64 till)):=
 ⟨h.os,h.tape,h.output,by have:=h.size;simpa [World.setCell] using this,fun k h1 h2=>by
  rw [Below.heap_setCell _ _ _ _ (show k≠g by omega),Below.heap_setCell _ _ _ _ (show k≠g by omega),Below.heap_setCell _ _ _ _ (show k≠g by omega),Below.heap_setCell _ _ _ _ (show k≠g by omega)]
  exact h.block k h1 h2⟩
theorem bK4 {w:World} {g:Nat} {x:Cm} (h:CmAt w g x):(loadVar 132 ⟨g,0,none⟩).run Tryz.prog w= .ok x.val w:=
 run_loadVar_row w g 132 132 x.cells (0,0) _ h Tryz.underlying132 rfl (by kernel_rfl)
theorem aF4 {fn:Func} {p u:Tmp} (h:fn.results= #[.cell p 132,.tmp u]) (tmps:Array Value) (w:World) (g:Nat) (x:Cm) (hp:tmps.getD p undef= .pointer (some ⟨g,0,none⟩)) (hx:CmAt w g x):
  (results fn tmps).run Tryz.prog w= .ok (.tuple #[x.val,tmps.getD u undef]) w:=by
 have hp':tmps[p]?.getD undef= .pointer (some ⟨g,0,none⟩):=by simpa using hp
 simp [results,h,hp',asAddr,bK4 hx]
inductive CmO where
 |fine (n:Nat) (ln:Bool)
 |bad (off:Nat) (code:Int)
def CmO.shift (m:Nat) (l:Bool):CmO→CmO
 | .fine n ln=> .fine (m+n) (l||ln)
 | .bad off code=> .bad (m+off) code
def cmtF (blk:Bool):Nat→List UInt8→CmO
 |0,_=> .bad 0 0
 |f+1,l=>
  if blk=true∧Lib.hasPrefix l [42,47]=true then .fine 2 false
  else if (nx l).2=0 then (if blk=true then .bad 0 507 else .fine 0 false)
  else if (nx l).2<0 then .bad 0 502
  else if blk=false∧at6 (nx l).1=true then .fine 0 false
  else (cmtF blk f (l.drop (nx l).2.toNat)).shift (nx l).2.toNat (at6 (nx l).1)
def cmt (blk:Bool) (l:List UInt8):CmO:=cmtF blk (l.length+1) l
theorem shift_shift (o:CmO) (m k:Nat) (a c:Bool):(o.shift m a).shift k c=o.shift (k+m) (c||a):=by
 cases o with
 |fine n ln=>simp [CmO.shift,Nat.add_assoc,Bool.or_assoc]
 |bad off code=>simp [CmO.shift,Nat.add_assoc]
end
section
open Go.RowKit
theorem ad4 (b:Nat) (s:ByteArray) (x:Rd) (l:List UInt8) (w:World) (hx:RdAt w b s x) (hp:x.at'≤s.size):
  Calls Tryz.prog 97 #[.pointer (some ⟨b,0,none⟩),.string ⟨l.toArray⟩] w fun e w'=>e= .returned (.bool (Lib.hasPrefix (s.data.toList.drop x.at') l))∧Below w.heap.size w w':=bI7 b s x ⟨l.toArray⟩ w hx hp
structure Cst (b g r:Nat) (s:ByteArray) (w0:World) (x:Rd) (c:Cm) (w:World):Prop where
 rd:RdAt w b s x
 cm:CmAt w g c
 rs:CmAt w r ⟨0,⟨#[]⟩,0,0⟩
 but:But b w0 w
 rdy:ae6 b w
 le:x.at'≤s.size
 gg:w0.heap.size≤g
 rr:w0.heap.size≤r
 gb:g≠b
 rb:r≠b
 gr:g≠r
theorem Cst.bel {b g r:Nat} {s:ByteArray} {w0 w w':World} {x:Rd} {c:Cm} (h:Cst b g r s w0 x c w) (hb:Below w.heap.size w w'):Cst b g r s w0 x c w':=
 ⟨h.rd.bel hb,h.cm.bel hb,h.rs.bel hb,h.but.bel hb,h.rdy.next h.rd.lt hb,h.le,h.gg,h.rr,h.gb,h.rb,h.gr⟩
theorem Cst.step {b g r:Nat} {s:ByteArray} {w0 w w':World} {x y:Rd} {c:Cm} (h:Cst b g r s w0 x c w) (hx:RdAt w' b s y) (hb:But b w w') (hl:y.at'≤s.size):Cst b g r s w0 y c w':=
 ⟨hx,h.cm.but hb h.gb,h.rs.but hb h.rb,h.but.trans hb,h.rdy.but h.rd.lt hb,hl,h.gg,h.rr,h.gb,h.rb,h.gr⟩
theorem Cst.setRd {b g r:Nat} {s:ByteArray} {w0 w:World} {x y:Rd} {c:Cm} (h:Cst b g r s w0 x c w) (k:Nat) (v:Value) (hy:(x.cells s).setIfInBounds k v=y.cells s) (hl:y.at'≤s.size):Cst b g r s w0 y c (w.setCell ⟨b,k,none⟩ v):=
 h.step (h.rd.set k v hy) ((But.refl b w).setCell k v) hl
theorem bG6 {w:World} (a c:Cm):CmAt ((w.alloc (.cells a.cells 132)).alloc (.cells c.cells 132)) w.heap.size a∧CmAt ((w.alloc (.cells a.cells 132)).alloc (.cells c.cells 132)) (w.heap.size+1) c:=by
 constructor
 ·exact(Below.heap_alloc _ _ _ (by rw [World.size_alloc];omega)).trans (heap_alloc_new _ _)
 ·have h:=heap_alloc_new (w.alloc (.cells a.cells 132)) (.cells c.cells 132)
  rw [World.size_alloc] at h
  exact h
theorem bj4 {b:Nat} {s:ByteArray} {w:World} {x:Rd} (hx:RdAt w b s x) (hr:ae6 b w) (hp:x.at'≤s.size) (c:Cm):
  Cst b (w.heap.size+1) w.heap.size s w x c ((w.alloc (.cells (Cm.cells ⟨0,⟨#[]⟩,0,0⟩) 132)).alloc (.cells c.cells 132)):=by
 obtain⟨h1,h2⟩:=bG6 (w:=w) ⟨0,⟨#[]⟩,0,0⟩ c
 have hb:Below w.heap.size w ((w.alloc (.cells (Cm.cells ⟨0,⟨#[]⟩,0,0⟩) 132)).alloc (.cells c.cells 132)):=aG5 _ _ _
 have hl:=hx.lt
 exact⟨hx.bel hb,h2,h1,.of_below hb,hr.next hl hb,hp,by omega,Nat.le_refl _,by omega,by omega,by omega⟩
theorem Cst.ret {b g r:Nat} {s:ByteArray} {w0 w:World} {x:Rd} {c:Cm} {kind from' till:Int} {text:ByteArray} (h:Cst b g r s w0 x c w):
  RdAt ((((w.setCell ⟨r,0,none⟩ (.int .i64 kind)).setCell ⟨r,1,none⟩ (.string text)).setCell ⟨r,2,none⟩ (.int .i64 from')).setCell ⟨r,3,none⟩ (.int .i64 till)) b s x∧
  But b w0 ((((w.setCell ⟨r,0,none⟩ (.int .i64 kind)).setCell ⟨r,1,none⟩ (.string text)).setCell ⟨r,2,none⟩ (.int .i64 from')).setCell ⟨r,3,none⟩ (.int .i64 till)):=
 ⟨(((h.rd.other (Ne.symm h.rb) 0 _).other (Ne.symm h.rb) 1 _).other (Ne.symm h.rb) 2 _).other (Ne.symm h.rb) 3 _,bB5 h.but h.rr⟩
theorem bd2 (b:Nat) (s:ByteArray) (x:Rd) (w:World) (hx:RdAt w b s x) (hr:ae6 b w) (hp:x.at'≤s.size)
  (h1:Lib.hasPrefix (s.data.toList.drop x.at') [47,47]=false) (h2:Lib.hasPrefix (s.data.toList.drop x.at') [47,42]=false) (h3:x.at'=0→Lib.hasPrefix (s.data.toList.drop x.at') [35,33]=false):
  Calls Tryz.prog 93 #[.pointer (some ⟨b,0,none⟩)] w fun e w'=> ∃c:Cm,e= .returned (.tuple #[c.val,.bool false])∧RdAt w' b s x∧But b w w':=by
 obtain⟨p,line,fl,cd⟩:=x
 simp only at hp h1 h2 h3⊢
 have hk:=bj4 hx hr hp ⟨0,⟨#[]⟩,p,0⟩
 have hbl:=hx.lt
 obtain⟨c0,c1,c2,c3,c4,f0,f1,f2,f3,f4⟩:=RdAt.facts hx
 have c0':(w.alloc (.cells (Cm.cells ⟨0,⟨#[]⟩,0,0⟩) 132)).cell? ⟨b,0,none⟩=some (.int .i64 p):=((hx.bel (ai0 (Below.refl _ _) _)).cell 0)
 clear hx hr
 go_enter Tryz.func93,Tryz.ntmps93
 go_upto_region 3 with fail
 have e0:((w.alloc (.cells (Cm.cells ⟨0,⟨#[]⟩,0,0⟩) 132)).alloc (.cells (Cm.cells ⟨0,⟨#[]⟩,p,0⟩) 132))=((w.alloc (.cells #[.int .i64 0,.string ⟨#[]⟩,.int .i64 0,.int .i64 0] 132)).alloc (.cells #[.int .i64 0,.string ⟨#[]⟩,.int .i64 p,.int .i64 0] 132)):=rfl
 rw [e0] at hk
 generalize ((w.alloc (.cells #[.int .i64 0,.string ⟨#[]⟩,.int .i64 0,.int .i64 0] 132)).alloc (.cells #[.int .i64 0,.string ⟨#[]⟩,.int .i64 p,.int .i64 0] 132))=w1 at*
 clear c0 c1 c2 c3 c4 f0 f1 f2 f3 f4 e0 c0'
 have HBL:=hJ hbl
 have HK:=hJ hk
 clear hk hbl
 generalize hgg:w.heap.size+1=g at*
 clear hgg
 generalize hrr:w.heap.size=r at*
 rw [←hrr] at HBL
 clear hrr
 obtain⟨c0,c1,c2,c3,c4,f0,f1,f2,f3,f4⟩:=RdAt.facts HK.out.rd;obtain⟨d0,d1,d2,d3,g0,g1,g2,g3⟩:=CmAt.facts HK.out.cm;obtain⟨z0,z1,z2,z3,y0,y1,y2,y3⟩:=CmAt.facts HK.out.rs
 by_cases hp0:p=0
 ·have h4:=h3 hp0
  have hpz:((p:Int)==0)=true:=by rw [beq_iff_eq];omega
  clear h3 hp0
  go_wp2_with (go_at_call 97;refine(ad4 b s _ _ _ HK.out.rd HK.out.le).mono ?_;rintro e w9 ⟨rfl,hb⟩;clear c0 c1 c2 c3 c4 f0 f1 f2 f3 f4 d0 d1 d2 d3 g0 g1 g2 g3 z0 z1 z2 z3 y0 y1 y2 y3;replace HK:=hJ (HK.out.bel hb);clear hb;obtain⟨c0,c1,c2,c3,c4,f0,f1,f2,f3,f4⟩:=RdAt.facts HK.out.rd;obtain⟨d0,d1,d2,d3,g0,g1,g2,g3⟩:=CmAt.facts HK.out.cm;obtain⟨z0,z1,z2,z3,y0,y1,y2,y3⟩:=CmAt.facts HK.out.rs)
  (try simp only [Exit.inBlock,Exit.then])
  refine bodyPost_ret (aF4 rfl _ _ _ _ rfl (CmAt.lay HK.out.rs)) rfl ?_
  exact⟨_,rfl,HK.out.ret⟩
 ·have hpz:((p:Int)==0)=false:=by rw [beq_eq_false_iff_ne];omega
  clear h3 hp0
  go_wp2_with (go_at_call 97;refine(ad4 b s _ _ _ HK.out.rd HK.out.le).mono ?_;rintro e w9 ⟨rfl,hb⟩;clear c0 c1 c2 c3 c4 f0 f1 f2 f3 f4 d0 d1 d2 d3 g0 g1 g2 g3 z0 z1 z2 z3 y0 y1 y2 y3;replace HK:=hJ (HK.out.bel hb);clear hb;obtain⟨c0,c1,c2,c3,c4,f0,f1,f2,f3,f4⟩:=RdAt.facts HK.out.rd;obtain⟨d0,d1,d2,d3,g0,g1,g2,g3⟩:=CmAt.facts HK.out.cm;obtain⟨z0,z1,z2,z3,y0,y1,y2,y3⟩:=CmAt.facts HK.out.rs)
  (try simp only [Exit.inBlock,Exit.then])
  refine bodyPost_ret (aF4 rfl _ _ _ _ rfl (CmAt.lay HK.out.rs)) rfl ?_
  exact⟨_,rfl,HK.out.ret⟩
end
section
open Go.RowKit
theorem ae1 {l p:List UInt8} (h:Lib.hasPrefix l p=true):p.length≤l.length:=by
 unfold Lib.hasPrefix at h
 exact(List.isPrefixOf_iff_prefix.1 h).length_le
theorem ba9 (c:UInt8) (t:List UInt8) (h:c.toNat<128):nx (c::t)=(((c.toNat:Nat):Int),(1:Int)):=by
 have hd:Lib.decodeGo ⟨(c::t).toArray⟩=(c.toNat,1):=by
  unfold Lib.decodeGo
  rw [if_neg (show¬(ByteArray.mk (c::t).toArray).size=0 from fun e=>by cases e),Lib.decode_at]
  have hg:(ByteArray.mk (c::t).toArray).get! 0=c:=rfl
  rw [hg]
  unfold Lib.decodeN
  rw [if_pos h]
 unfold nx
 rw [hd]
 simp only
 rw [if_neg (by omega)]
 rfl
theorem Cst.drew {b g r:Nat} {s:ByteArray} {w0 w:World} {x:Rd} {c:Cm} (h:Cst b g r s w0 x c w):Cst b g r s w0 x c w.drew:=
 ⟨h.rd,h.cm,h.rs,⟨h.but.os,h.but.tape,h.but.output,h.but.size,h.but.block⟩,h.rdy.bel (Below.drew (Below.refl _ _)),h.le,h.gg,h.rr,h.gb,h.rb,h.gr⟩
end
section
open Go.RowKit
def aj8 (p:Nat) (l:List UInt8):Nat:=if Lib.hasPrefix l [47,47]=true then 1 else if Lib.hasPrefix l [47,42]=true then 2 else if p=0∧Lib.hasPrefix l [35,33]=true then 3 else 0
def aD4 (l:List UInt8):Bool:=decide (0<(nx l).2) && (at6 (nx l).1||az6 (nx l).1)
inductive BtO where
 |fine (p:Nat) (line:Bool) (cs:List Cm)
 |bad (place:Int) (code:Int)
def BtO.pre (cs:List Cm):BtO→BtO
 | .fine p line ds=> .fine p line (cs++ds)
 | .bad a c=> .bad a c
def aZ1 (p off:Nat) (code:Int):Int:=if code=507 then (p:Int) else ((p+2+off:Nat):Int)
def btwF (s:ByteArray):Nat→Nat→Bool→BtO
 |0,_,_=> .bad 0 0
 |f+1,p,line=>
  if aD4 (s.data.toList.drop p)=true then btwF s f (p+(nx (s.data.toList.drop p)).2.toNat) (line||at6 (nx (s.data.toList.drop p)).1)
  else if aj8 p (s.data.toList.drop p)=0 then .fine p line []
  else match cmt (decide (aj8 p (s.data.toList.drop p)=2)) (s.data.toList.drop (p+2)) with
   | .fine n ln=>(btwF s f (p+2+n) (line||ln)).pre [⟨aj8 p (s.data.toList.drop p),s.extract p (p+2+n),p,((p+2+n:Nat):Int)⟩]
   | .bad off code=> .bad (aZ1 p off code) code
theorem aO4 {l:List UInt8} (h:aD4 l=true): ∃n:Nat,(nx l).2=n∧0<n∧n≤l.length∧n≤4:=by
 unfold aD4 at h
 simp only [Bool.and_eq_true,decide_eq_true_eq] at h
 obtain⟨n,h1,h2,h3,_⟩:=aj0 (l:=l) (by omega)
 exact⟨n,h1,by omega,h2,h3⟩
theorem aH8 {p:Nat} {l:List UInt8} (h:aj8 p l≠0):2≤l.length:=by
 unfold aj8 at h
 split at h
 ·rename_i h1;exact ae1 h1
 ·split at h
  ·rename_i h1;exact ae1 h1
  ·split at h
   ·rename_i h1;exact ae1 h1.2
   ·exact absurd rfl h
theorem av0 (s:ByteArray): ∀(f g p:Nat) (line:Bool),s.size - p<f→s.size - p<g→btwF s f p line=btwF s g p line
 |0,_,_,_,h,_=>by omega
 |_+1,0,_,_,_,h=>by omega
 |f+1,g+1,p,line,h1,h2=>by
  rw [btwF,btwF]
  cases hg:aD4 (s.data.toList.drop p) with
  |true=>
   obtain⟨n,h3,h4,h5,h6⟩:=aO4 hg
   rw [List.length_drop,ofl] at h5
   rw [if_pos rfl,if_pos rfl,av0 s f g _ _ (by omega) (by omega)]
  |false=>
   rw [if_neg (show¬(false=true) by decide),if_neg (show¬(false=true) by decide)]
   by_cases hk:aj8 p (s.data.toList.drop p)=0
   ·rw [if_pos hk,if_pos hk]
   ·rw [if_neg hk,if_neg hk]
    have hl:=aH8 hk
    rw [List.length_drop,ofl] at hl
    cases hc:cmt (decide (aj8 p (s.data.toList.drop p)=2)) (s.data.toList.drop (p+2)) with
    |fine n ln=>
     simp only
     rw [av0 s f g (p+2+n) _ (by omega) (by omega)]
    |bad off code=>rfl
def btw (s:ByteArray) (p:Nat) (line:Bool):BtO:=btwF s (s.size - p+1) p line
theorem br8 (s:ByteArray) (p:Nat) (line:Bool) (hp:p≤s.size):btw s p line=
  if aD4 (s.data.toList.drop p)=true then btw s (p+(nx (s.data.toList.drop p)).2.toNat) (line||at6 (nx (s.data.toList.drop p)).1)
  else if aj8 p (s.data.toList.drop p)=0 then .fine p line []
  else match cmt (decide (aj8 p (s.data.toList.drop p)=2)) (s.data.toList.drop (p+2)) with
   | .fine n ln=>(btw s (p+2+n) (line||ln)).pre [⟨aj8 p (s.data.toList.drop p),s.extract p (p+2+n),p,((p+2+n:Nat):Int)⟩]
   | .bad off code=> .bad (aZ1 p off code) code:=by
 unfold btw
 rw [btwF]
 cases hg:aD4 (s.data.toList.drop p) with
 |true=>
  obtain⟨n,h3,h4,h5,h6⟩:=aO4 hg
  rw [List.length_drop,ofl] at h5
  rw [if_pos rfl,if_pos rfl]
  exact av0 s _ _ _ _ (by omega) (by omega)
 |false=>
  rw [if_neg (show¬(false=true) by decide),if_neg (show¬(false=true) by decide)]
  by_cases hk:aj8 p (s.data.toList.drop p)=0
  ·rw [if_pos hk,if_pos hk]
  ·rw [if_neg hk,if_neg hk]
   have hl:=aH8 hk
   rw [List.length_drop,ofl] at hl
   cases hc:cmt (decide (aj8 p (s.data.toList.drop p)=2)) (s.data.toList.drop (p+2)) with
   |fine n ln=>
    simp only
    rw [av0 s (s.size - p) (s.size - (p+2+n)+1) (p+2+n) _ (by omega) (by omega)]
   |bad off code=>rfl
end
section
open Go.RowKit
theorem aN2 (b:Nat) (s:ByteArray) (p:Nat) (line:Bool) (fl cd:Int) (w:World) (hx:RdAt w b s ⟨p,line,fl,cd⟩) (hr:ae6 b w) (hp:p≤s.size) (hk:aj8 p (s.data.toList.drop p)=0):
  Calls Tryz.prog 93 #[.pointer (some ⟨b,0,none⟩)] w fun e w'=> ∃c:Cm,e= .returned (.tuple #[c.val,.bool false])∧RdAt w' b s ⟨p,line,fl,cd⟩∧But b w w':=by
 unfold aj8 at hk
 split at hk
 ·cases hk
 ·rename_i h1
  split at hk
  ·cases hk
  ·rename_i h2
   split at hk
   ·cases hk
   ·rename_i h3
    refine bd2 b s ⟨p,line,fl,cd⟩ w hx hr hp (by simpa using h1) (by simpa using h2) fun h0=> ?_
    cases h4:Lib.hasPrefix (s.data.toList.drop p) [35,33] with
    |false=>rfl
    |true=>exact absurd ⟨h0,h4⟩ h3
def aq7 (c:Cm):List Value:= [.int .i64 c.kind,.string c.text,.int .i64 c.from',.int .i64 c.till]
def as8 (cs:List Cm):List Value:=cs.flatMap aq7
theorem bn6 {w w':World} {b base size n:Nat} {e:TypeId} {v:Value} {xs:List Value} (h:w.ownsRow base e size v n xs) (hb:But b w w') (hbb:b<base):w'.ownsRow base e size v n xs:=by
 refine⟨h.1,?_⟩
 rcases h.2 with h2|⟨g,cap,cur,hv,hg,hh,r⟩
 ·exact .inl h2
 ·refine .inr ⟨g,cap,cur,hv,hg,?_,r⟩
  rw [hb.block g (Array.getElem?_eq_some_iff.1 hh).1 (by omega)]
  exact hh
structure Bst (b:Nat) (s:ByteArray) (w0:World) (x:Rd) (v:Value) (cs:List Cm) (w:World):Prop where
 rd:RdAt w b s x
 own:w.ownsRow w0.heap.size 132 4 v cs.length (as8 cs)
 but:But b w0 w
 rdy:ae6 b w
 le:x.at'≤s.size
 bl:b<w0.heap.size
theorem Bst.step {b:Nat} {s:ByteArray} {w0 w w':World} {x y:Rd} {v:Value} {cs:List Cm} (h:Bst b s w0 x v cs w) (hx:RdAt w' b s y) (hb:But b w w') (hl:y.at'≤s.size):Bst b s w0 y v cs w':=
 ⟨hx,bn6 h.own hb h.bl,h.but.trans hb,h.rdy.but h.rd.lt hb,hl,h.bl⟩
theorem Bst.bel {b:Nat} {s:ByteArray} {w0 w w':World} {x:Rd} {v:Value} {cs:List Cm} (h:Bst b s w0 x v cs w) (hb:Below w.heap.size w w'):Bst b s w0 x v cs w':=h.step (h.rd.bel hb) (.of_below hb) h.le
theorem Bst.setRd {b:Nat} {s:ByteArray} {w0 w:World} {x y:Rd} {v:Value} {cs:List Cm} (h:Bst b s w0 x v cs w) (k:Nat) (u:Value) (hy:(x.cells s).setIfInBounds k u=y.cells s) (hl:y.at'≤s.size):Bst b s w0 y v cs (w.setCell ⟨b,k,none⟩ u):=
 h.step (h.rd.set k u hy) ((But.refl b w).setCell k u) hl
def bL1 (b:Nat) (s:ByteArray) (w:World) (q:Nat) (line:Bool) (fl:Int) (v:Value) (wr:World):Prop:=
 ∃(k:Nat) (ln:Bool),Bst b s w ⟨k,ln,fl,0⟩ v [] wr∧btw s k ln= .fine q line []
theorem bF3 {q:Nat} {line:Bool} (o:BtO) (c:Cm): ¬o.pre [c]= .fine q line []:=by
 intro h
 cases o with
 |fine p l ds=>injection h with _ _ h;cases h
 |bad a b=>cases h
theorem br7 {s:ByteArray} {k q:Nat} {ln line:Bool} (hk:k≤s.size) (h:btw s k ln= .fine q line []):(aD4 (s.data.toList.drop k)=true∧btw s (k+(nx (s.data.toList.drop k)).2.toNat) (ln||at6 (nx (s.data.toList.drop k)).1)= .fine q line [])∨(aD4 (s.data.toList.drop k)=false∧aj8 k (s.data.toList.drop k)=0∧k=q∧ln=line):=by
 rw [br8 s k ln hk] at h
 split at h
 ·rename_i hg
  exact .inl ⟨hg,h⟩
 ·rename_i hg
  split at h
  ·rename_i hc
   injection h with h1 h2
   exact .inr ⟨by simpa using hg,hc,h1,h2⟩
  ·split at h
   ·exact absurd h (bF3 _ _)
   ·cases h
theorem aR9 (b:Nat) (s:ByteArray) (p q:Nat) (line ln':Bool) (fl:Int) (w:World) (hx:RdAt w b s ⟨p,line,fl,0⟩) (hr:ae6 b w) (hs:s.size≤16777216) (hp:p≤s.size) (hbt:btw s p line= .fine q ln' []):
  Calls Tryz.prog 55 #[.pointer (some ⟨b,0,none⟩)] w fun e w'=> ∃v,e= .returned (.tuple #[v,.bool true])∧Bst b s w ⟨q,ln',fl,0⟩ v [] w':=by
 have HB0:=hJ (show Bst b s w ⟨p,line,fl,0⟩ (.slice none 0 0) [] w from⟨hx,World.ownsRow_nil _ _ _ _,But.refl _ _,hr,hp,hx.lt⟩)
 have HBT:=hJ hbt
 clear hx hr hbt
 go_enter Tryz.func55,Tryz.ntmps55
 go_wp2
 go_loopw [4,5,6,7,8] (fun v _ _ _ _ wr=>bL1 b s w q ln' fl v wr) (fun _ _ _ _ _ wr=>s.size - aU1 wr b)
 case atStart=>exact⟨p,line,HB0.out,HBT.out⟩
 case round=>
  obtain⟨k,ln,hbst,heq⟩:=hrel
  have hle:=hbst.le
  simp only at hle
  have HPOS:=hJ hbst.rd.pos
  have hst:=br7 hle heq
  have hnx:=fun W hx hr=>af4 b s ⟨k,ln,fl,0⟩ W hx hr hle
  have hpz:=fun h=>aj0 (l:=s.data.toList.drop k) h
  rw [List.length_drop,ofl] at hpz
  have hends:=fun W=>aK8 (nx (s.data.toList.drop k)).1 W
  have hblank:=fun W=>bi5 (nx (s.data.toList.drop k)).1 W
  have hgap:aD4 (s.data.toList.drop k)=(decide (0<(nx (s.data.toList.drop k)).2) && (at6 (nx (s.data.toList.drop k)).1||az6 (nx (s.data.toList.drop k)).1)):=rfl
  have hcn:=fun W hx hr h=>aN2 b s k ln fl 0 W hx hr hle h
  clear HB0
  have HK:=hJ hbst
  clear hbst
  simp only at hnx
  generalize he:at6 (nx (s.data.toList.drop k)).1=ed at*
  generalize hbl:az6 (nx (s.data.toList.drop k)).1=bl at*
  generalize hc:(nx (s.data.toList.drop k)).1=c at*
  generalize hn:(nx (s.data.toList.drop k)).2=n at*
  generalize aD4 (s.data.toList.drop k)=ig at*
  clear he hbl hc hn
  have HNX:=hJ hnx
  have HPZ:=hJ hpz
  have HEN:=hJ hends
  have HBL:=hJ hblank
  have HST:=hJ hst
  have HG:=hJ hgap
  have HCN:=hJ hcn
  clear hnx hpz hends hblank heq hst hgap hcn
  obtain⟨c0,c1,c2,c3,c4,f0,f1,f2,f3,f4⟩:=RdAt.facts HK.out.rd
  go_upto_region 3 with (go_at_call 90;refine(HNX.out _ HK.out.rd HK.out.rdy).mono ?_;rintro e w9 ⟨rfl,hb⟩;clear c0 c1 c2 c3 c4 f0 f1 f2 f3 f4;replace HK:=hJ (HK.out.bel hb);clear hb;obtain⟨c0,c1,c2,c3,c4,f0,f1,f2,f3,f4⟩:=RdAt.facts HK.out.rd)
  go_cut [23] from 14 to 22 (fun v wx=>v= .bool ig∧Bst b s w ⟨k,ln,fl,0⟩ u4 [] wx)
  case first=>
   clear HST HCN
   by_cases hn0:0<n
   ·cases hed:ed with
    |true=>
     have HV:=hJ (show ig=true by rw [HG.out,decide_eq_true hn0,hed];rfl)
     rw [hed] at HEN
     go_wp2_with (go_at_call 91;refine(HEN.out _).mono ?_;rintro e w9 ⟨rfl,hb⟩;clear c0 c1 c2 c3 c4 f0 f1 f2 f3 f4;replace HK:=hJ (HK.out.bel hb);clear hb;obtain⟨c0,c1,c2,c3,c4,f0,f1,f2,f3,f4⟩:=RdAt.facts HK.out.rd)
     go_meet
     exact⟨by rw [HV.out],HK.out⟩
    |false=>
     have HV:=hJ (show ig=bl by rw [HG.out,decide_eq_true hn0,hed];rfl)
     rw [hed] at HEN
     go_wp2_with (first|(go_at_call 91;refine(HEN.out _).mono ?_;rintro e w9 ⟨rfl,hb⟩;clear c0 c1 c2 c3 c4 f0 f1 f2 f3 f4;replace HK:=hJ (HK.out.bel hb);clear hb;obtain⟨c0,c1,c2,c3,c4,f0,f1,f2,f3,f4⟩:=RdAt.facts HK.out.rd)|(go_at_call 92;refine(HBL.out _).mono ?_;rintro e w9 ⟨rfl,hb⟩;clear c0 c1 c2 c3 c4 f0 f1 f2 f3 f4;replace HK:=hJ (HK.out.bel hb);clear hb;obtain⟨c0,c1,c2,c3,c4,f0,f1,f2,f3,f4⟩:=RdAt.facts HK.out.rd))
     go_meet
     exact⟨by rw [HV.out],HK.out⟩
   ·have HV:=hJ (show ig=false by rw [HG.out,decide_eq_false hn0];rfl)
    go_wp2_with fail
    go_meet
    exact⟨by rw [HV.out],HK.out⟩
  case rest=>
   obtain⟨rfl,hbst⟩:=hcut
   clear c0 c1 c2 c3 c4 f0 f1 f2 f3 f4
   clear HK HBL
   have HK:=hJ hbst
   clear hbst
   obtain⟨c0,c1,c2,c3,c4,f0,f1,f2,f3,f4⟩:=RdAt.facts HK.out.rd
   cases hig:ig with
   |true=>
    have hn0:0<n:=by
     have:=HG.out
     rw [hig] at this
     simp only [Bool.and_eq_true,eq_comm (a:=true),decide_eq_true_eq] at this
     exact this.1
    obtain⟨m,rfl,hm1,hm2,hm3⟩:=HPZ.out (by omega)
    have HN:=hJ (show btw s (k+m) (ln||ed)= .fine q ln' [] by
     rcases HST.out with ⟨_,h⟩|⟨h,_⟩
     ·rw [Int.toNat_natCast] at h;exact h
     ·rw [hig] at h;cases h)
    clear HST HCN HPZ HG hm3
    subst hig
    cases hln:ln with
    |true=>
     rw [hln] at HN HNX
     subst hln
     cases hed:ed with
     |true=>
      rw [hed] at HN HEN
      subst hed
      go_upto_region 5 with fail
      have hkc:=HK.out.setRd (y:=⟨k,true,fl,0⟩) 2 (.bool true) rfl hle
      clear c0 c1 c2 c3 c4 f0 f1 f2 f3 f4
      clear HK
      generalize World.setCell _ _ _=w6 at*
      have HK:=hJ hkc
      clear hkc
      obtain⟨c0,c1,c2,c3,c4,f0,f1,f2,f3,f4⟩:=RdAt.facts HK.out.rd
      go_wp2_with fail
      have hkd:=HK.out.setRd (y:=⟨k+m,true,fl,0⟩) 0 (.int .i64 ((k:Int)+(m:Int))) rfl (show k+m≤s.size by omega)
      go_roundw
      case rel=>exact⟨k+m,_,hkd,HN.out⟩
      case measure=>rw [hkd.rd.pos,HPOS.out];simp only;omega
     |false=>
      rw [hed] at HN HEN
      subst hed
      go_upto_region 5 with fail
      have hkc:=HK.out.setRd (y:=⟨k,true,fl,0⟩) 2 (.bool true) rfl hle
      clear c0 c1 c2 c3 c4 f0 f1 f2 f3 f4
      clear HK
      generalize World.setCell _ _ _=w6 at*
      have HK:=hJ hkc
      clear hkc
      obtain⟨c0,c1,c2,c3,c4,f0,f1,f2,f3,f4⟩:=RdAt.facts HK.out.rd
      go_wp2_with fail
      have hkd:=HK.out.setRd (y:=⟨k+m,true,fl,0⟩) 0 (.int .i64 ((k:Int)+(m:Int))) rfl (show k+m≤s.size by omega)
      go_roundw
      case rel=>exact⟨k+m,_,hkd,HN.out⟩
      case measure=>rw [hkd.rd.pos,HPOS.out];simp only;omega
    |false=>
     rw [hln] at HN HNX
     subst hln
     cases hed:ed with
     |true=>
      rw [hed] at HN HEN
      subst hed
      go_upto_region 5 with (go_at_call 91;refine(HEN.out _).mono ?_;rintro e w9 ⟨rfl,hb⟩;clear c0 c1 c2 c3 c4 f0 f1 f2 f3 f4;replace HK:=hJ (HK.out.bel hb);clear hb;obtain⟨c0,c1,c2,c3,c4,f0,f1,f2,f3,f4⟩:=RdAt.facts HK.out.rd)
      have hkc:=HK.out.setRd (y:=⟨k,true,fl,0⟩) 2 (.bool true) rfl hle
      clear c0 c1 c2 c3 c4 f0 f1 f2 f3 f4
      clear HK
      generalize World.setCell _ _ _=w6 at*
      have HK:=hJ hkc
      clear hkc
      obtain⟨c0,c1,c2,c3,c4,f0,f1,f2,f3,f4⟩:=RdAt.facts HK.out.rd
      go_wp2_with fail
      have hkd:=HK.out.setRd (y:=⟨k+m,true,fl,0⟩) 0 (.int .i64 ((k:Int)+(m:Int))) rfl (show k+m≤s.size by omega)
      go_roundw
      case rel=>exact⟨k+m,_,hkd,HN.out⟩
      case measure=>rw [hkd.rd.pos,HPOS.out];simp only;omega
     |false=>
      rw [hed] at HN HEN
      subst hed
      go_upto_region 5 with (go_at_call 91;refine(HEN.out _).mono ?_;rintro e w9 ⟨rfl,hb⟩;clear c0 c1 c2 c3 c4 f0 f1 f2 f3 f4;replace HK:=hJ (HK.out.bel hb);clear hb;obtain⟨c0,c1,c2,c3,c4,f0,f1,f2,f3,f4⟩:=RdAt.facts HK.out.rd)
      have hkc:=HK.out.setRd (y:=⟨k,false,fl,0⟩) 2 (.bool false) rfl hle
      clear c0 c1 c2 c3 c4 f0 f1 f2 f3 f4
      clear HK
      generalize World.setCell _ _ _=w6 at*
      have HK:=hJ hkc
      clear hkc
      obtain⟨c0,c1,c2,c3,c4,f0,f1,f2,f3,f4⟩:=RdAt.facts HK.out.rd
      go_wp2_with fail
      have hkd:=HK.out.setRd (y:=⟨k+m,false,fl,0⟩) 0 (.int .i64 ((k:Int)+(m:Int))) rfl (show k+m≤s.size by omega)
      go_roundw
      case rel=>exact⟨k+m,_,hkd,HN.out⟩
      case measure=>rw [hkd.rd.pos,HPOS.out];simp only;omega
   |false=>
    obtain⟨hk0,rfl,rfl⟩:aj8 k (s.data.toList.drop k)=0∧k=q∧ln=ln':=by
     rcases HST.out with ⟨h,_⟩|⟨_,h⟩
     ·rw [hig] at h;cases h
     ·exact h
    clear HST HPZ HG HNX HEN
    subst hig
    go_upto_region 7 with (go_at_call 93;refine(HCN.out _ HK.out.rd HK.out.rdy hk0).mono ?_;rintro e w9 ⟨⟨kd,tx,fr,tl⟩,rfl,hx9,hb9⟩;unfold Cm.val Cm.cells;clear c0 c1 c2 c3 c4 f0 f1 f2 f3 f4;replace HK:=hJ (HK.out.step hx9 hb9 hle);clear hx9 hb9;obtain⟨c0,c1,c2,c3,c4,f0,f1,f2,f3,f4⟩:=RdAt.facts HK.out.rd)
    have hk1:=fun o=>HK.out.bel (Below.alloc (Below.refl _ w9) (Nat.le_refl _) o)
    have hk2:=hk1 (.cells (Cm.cells ⟨kd,tx,fr,tl⟩) 132)
    unfold Cm.cells at hk2
    simp only at hk2
    clear c0 c1 c2 c3 c4 f0 f1 f2 f3 f4
    clear HK hk1
    generalize w9.alloc (.cells #[.int .i64 kd,.string tx,.int .i64 fr,.int .i64 tl] 132)=w10 at*
    have HK:=hJ hk2
    clear hk2
    obtain⟨c0,c1,c2,c3,c4,f0,f1,f2,f3,f4⟩:=RdAt.facts HK.out.rd
    go_upto_region 8 with fail
    go_quiet (fail)
    go_wp2_with fail
    go_ret2
    exact⟨_,rfl,HK.out.bel (aa3 (Below.refl _ _) _)⟩
end
section
open Go.RowKit
inductive TpO where
 |fine (n:Nat) (head:Bool)
 |bad (off:Nat) (code:Int)
def TpO.shift (m:Nat):TpO→TpO
 | .fine n h=> .fine (m+n) h
 | .bad off code=> .bad (m+off) code
def esc (l:List UInt8):Nat:=if Lib.hasPrefix l [92]=true then 1 else 0
theorem bz9 (l:List UInt8):esc l≤l.length:=by
 unfold esc
 split
 ·rename_i h
  cases l with
  |nil=>exact absurd h (by decide)
  |cons a t=>simp
 ·omega
def tplF:Nat→List UInt8→TpO
 |0,_=> .bad 0 0
 |f+1,l=>
  if Lib.hasPrefix l [96]=true then .fine 1 false
  else if Lib.hasPrefix l [36,123]=true then .fine 2 true
  else if (nx (l.drop (esc l))).2=0 then .bad (esc l) 505
  else if (nx (l.drop (esc l))).2<0 then .bad (esc l) 502
  else (tplF f (l.drop (esc l+(nx (l.drop (esc l))).2.toNat))).shift (esc l+(nx (l.drop (esc l))).2.toNat)
theorem aR0: ∀(f g:Nat) (l:List UInt8),l.length<f→l.length<g→tplF f l=tplF g l
 |0,_,_,h,_=>by omega
 |_+1,0,_,_,h=>by omega
 |f+1,g+1,l,h1,h2=>by
  rw [tplF,tplF]
  by_cases e0:(nx (l.drop (esc l))).2<0
  ·simp only [if_pos e0]
  ·by_cases e1:(nx (l.drop (esc l))).2=0
   ·simp only [if_pos e1]
   ·obtain⟨m,h3,h4,h5,h6⟩:=aj0 (l:=l.drop (esc l)) (by omega)
    have hle:=bz9 l
    rw [List.length_drop] at h4
    rw [aR0 f g (l.drop (esc l+(nx (l.drop (esc l))).2.toNat)) (by rw [List.length_drop,h3,Int.toNat_natCast];omega) (by rw [List.length_drop,h3,Int.toNat_natCast];omega)]
def tpl (l:List UInt8):TpO:=tplF (l.length+1) l
theorem by8 (l:List UInt8):tpl l=
  if Lib.hasPrefix l [96]=true then .fine 1 false
  else if Lib.hasPrefix l [36,123]=true then .fine 2 true
  else if (nx (l.drop (esc l))).2=0 then .bad (esc l) 505
  else if (nx (l.drop (esc l))).2<0 then .bad (esc l) 502
  else (tpl (l.drop (esc l+(nx (l.drop (esc l))).2.toNat))).shift (esc l+(nx (l.drop (esc l))).2.toNat):=by
 unfold tpl
 rw [tplF]
 by_cases e0:(nx (l.drop (esc l))).2<0
 ·simp only [if_pos e0]
 ·by_cases e1:(nx (l.drop (esc l))).2=0
  ·simp only [if_pos e1]
  ·obtain⟨m,h3,h4,h5,h6⟩:=aj0 (l:=l.drop (esc l)) (by omega)
   have hle:=bz9 l
   rw [List.length_drop] at h4
   rw [aR0 l.length ((l.drop (esc l+(nx (l.drop (esc l))).2.toNat)).length+1) (l.drop (esc l+(nx (l.drop (esc l))).2.toNat)) (by rw [List.length_drop,h3,Int.toNat_natCast];omega) (by omega)]
end
end Go.Proofs.YtnobjeelihkjmaaGreatDoor
