/- Steps (LE LF LG LH LI LJ LK). Conditions: as stated. -/
import Derived.Test.YtcgbkjhoifhnnaaGreatDoorZe01
set_option maxHeartbeats 4000000
set_option maxRecDepth 20000
namespace Go.Proofs.YtcgbkjhoifhnnaaGreatDoor
section
open Go.RowKit
def aL7 (s:ByteArray):Nat:=if (at1 s).2.2=true then s.size - (at1 s).2.1.size else 0
theorem bd5 (s:ByteArray):(at1 s).2.1.size≤s.size:=by
 unfold at1
 cases ho:au6 s with
 |true=>
  rw [if_pos rfl]
  unfold aM3
  simp only
  have h1:=(aG1 (s.data.toList[1]!.toNat|||32) (s.extract 2 s.size)).1
  rw [ByteArray.size_extract] at h1
  have h2:(Lib.trimPrefix (runB (s.data.toList[1]!.toNat|||32) (s.extract 2 s.size)).2.data.toList [110]).length≤(runB (s.data.toList[1]!.toNat|||32) (s.extract 2 s.size)).2.size:=by
   unfold Lib.trimPrefix
   split
   ·rw [List.length_drop,ofl];omega
   ·rw [ofl];exact Nat.le_refl _
  generalize Lib.trimPrefix (runB (s.data.toList[1]!.toNat|||32) (s.extract 2 s.size)).2.data.toList [110]=l at*
  rw [←ofl]
  simp only
  omega
 |false=>
  rw [if_neg (by decide)]
  unfold aA3
  have h1:=aG8 s
  have h2:=aI7 (ag2 s).2
  simp only
  split
  ·simp only;omega
  ·simp only
   have h3:=aN9 (al9 (ag2 s).1 (ao1 (ag2 s).2).1 (ao1 (ag2 s).2).2.1) (ao1 (ag2 s).2).2.2
   have h4: ∀(x:Lit) (r:ByteArray),(bigL x r).2.size≤r.size:=fun x r=>by
    unfold bigL
    split
    ·simp only [ByteArray.size_extract];omega
    ·exact Nat.le_refl _
   have h5:=h4 (expL (al9 (ag2 s).1 (ao1 (ag2 s).2).1 (ao1 (ag2 s).2).2.1) (ao1 (ag2 s).2).2.2).1 (expL (al9 (ag2 s).1 (ao1 (ag2 s).2).1 (ao1 (ag2 s).2).2.1) (ao1 (ag2 s).2).2.2).2
   omega
theorem br7 (s:ByteArray):aL7 s≤s.size:=by unfold aL7;split<;>omega
theorem aE8 (s:ByteArray) (w:World) (hs:s.size≤16777216) (hM:ax1 w):
  Calls Tryz.prog 145 #[.string s] w fun e w'=>e= .returned (.int .i64 (aL7 s:Nat))∧Below w.heap.size w w':=by
 have hS:=bt6 s w hs hM
 have hz:=bd5 s
 have hl:aL7 s=if (at1 s).2.2=true then s.size - (at1 s).2.1.size else 0:=rfl
 generalize aL7 s=L at*
 generalize at1 s=q at*
 obtain⟨x,r,f⟩:=q
 obtain⟨base,whole,point,part,ex,minus,power,big⟩:=x
 unfold Lit.val Lit.cells at hS
 simp only at hS hz hl
 have HS:=hJ hS
 clear hS hM
 cases f with
 |true=>
  rw [if_pos rfl] at hl
  have HL:=hJ hl
  clear hl
  go_enter Tryz.func145,Tryz.ntmps145
  go_wp2_with (go_at_call 173;refine HS.out.mono ?_;rintro e w1 ⟨rfl,hb1⟩)
  go_ret
  refine⟨?_,al5 hb1 _⟩
  rw [HL.out]
  refine bC3 ?_
  omega
 |false=>
  rw [if_neg (by decide)] at hl
  have HL:=hJ hl
  clear hl
  go_enter Tryz.func145,Tryz.ntmps145
  go_wp2_with (go_at_call 173;refine HS.out.mono ?_;rintro e w1 ⟨rfl,hb1⟩)
  go_ret
  refine⟨?_,al5 hb1 _⟩
  rw [HL.out]
  rfl
def am0 (l:List UInt8):Nat:=aL7 ⟨l.toArray⟩
def numL (l:List UInt8):Nat:=if 0<(nx (l.drop (am0 l))).2∧(ae5 (nx (l.drop (am0 l))).1=true∨ai8 (l.drop (am0 l))=true) then 0 else am0 l
theorem aC6 (l:List UInt8):am0 l≤l.length:=br7 ⟨l.toArray⟩
theorem aI5 (b:Nat) (s:ByteArray) (x:Rd) (w:World) (hx:RdAt w b s x) (hr:af5 b w) (hs:s.size≤16777216) (hp:x.at'≤s.size) (hk:numL (s.data.toList.drop x.at')=0):
  Calls Tryz.prog 98 #[.pointer (some ⟨b,0,none⟩)] w fun e w'=>e= .returned (.bool false)∧RdAt w' b s { x with fail:=x.at',code:=503 } ∧But b w w':=by
 obtain⟨p,line,fl,cd⟩:=x
 simp only at hp hk⊢
 have hLo:=fun W h=>aE8 (s.extract p s.size) W (by rw [ByteArray.size_extract];omega) h
 have hll:aL7 (s.extract p s.size)=am0 (s.data.toList.drop p):=by unfold am0;rw [am3 (s.extract p s.size) (s.data.toList.drop p) (ag6 s p)]
 rw [hll] at hLo
 have hle:=aC6 (s.data.toList.drop p)
 rw [List.length_drop,ofl] at hle
 have hnum:numL (s.data.toList.drop p)=if 0<(nx (s.data.toList.drop (p+am0 (s.data.toList.drop p)))).2∧(ae5 (nx (s.data.toList.drop (p+am0 (s.data.toList.drop p)))).1=true∨ai8 (s.data.toList.drop (p+am0 (s.data.toList.drop p)))=true) then 0 else am0 (s.data.toList.drop p):=by
  unfold numL
  rw [List.drop_drop]
 have hNx:=fun W h z hz=>aC7 s (p+am0 (s.data.toList.drop p)) W (by omega) h z hz
 have hDg:=fun W z hz=>aq0 s (p+am0 (s.data.toList.drop p)) W z hz
 generalize hm:am0 (s.data.toList.drop p)=m at*
 generalize (nx (s.data.toList.drop (p+m))).1=c at*
 generalize (nx (s.data.toList.drop (p+m))).2=n at*
 have hSt:=fun W=>aq3 c W
 generalize hdg:ai8 (s.data.toList.drop (p+m))=dg at*
 generalize hst:ae5 c=st at*
 generalize numL (s.data.toList.drop p)=k at*
 have HLo:=hJ hLo
 have HNx:=hJ hNx
 have HDg:=hJ hDg
 have HSt:=hJ hSt
 have HX:=hJ hx
 have HR:=hJ hr
 have hbl:=hx.lt
 clear hLo hNx hDg hSt hx hr hll hm hdg hst
 have hcase:(m=0∧k=0)∨(0<m∧0<n∧st=true∧k=0)∨(0<m∧0<n∧st=false∧dg=true∧k=0)∨(0<m∧0<n∧st=false∧dg=false∧k=m)∨(0<m∧n≤0∧k=m):=by
  by_cases hm0:m=0
  ·subst hm0
   refine .inl ⟨rfl,?_⟩
   rw [hnum];split<;>rfl
  ·by_cases hn0:0<n
   ·cases hst:st with
    |true=>exact .inr (.inl ⟨by omega,hn0,rfl,by rw [hnum,if_pos ⟨hn0,.inl hst⟩]⟩)
    |false=>
     cases hdg:dg with
     |true=>exact .inr (.inr (.inl ⟨by omega,hn0,rfl,rfl,by rw [hnum,if_pos ⟨hn0,.inr hdg⟩]⟩))
     |false=>exact .inr (.inr (.inr (.inl ⟨by omega,hn0,rfl,rfl,by rw [hnum,if_neg];rintro⟨_,h|h⟩;exact absurd (hst.symm.trans h) (by decide);exact absurd (hdg.symm.trans h) (by decide)⟩)))
   ·exact .inr (.inr (.inr (.inr ⟨by omega,by omega,by rw [hnum,if_neg (fun h=>hn0 h.1)]⟩)))
 clear hnum
 rcases hcase with ⟨rfl,rfl⟩|⟨h1,h2,rfl,rfl⟩|⟨h1,h2,rfl,rfl,rfl⟩|⟨h1,h2,rfl,rfl,rfl⟩|⟨h1,h2,rfl⟩
 ·clear hk
  obtain⟨c0,c1,c2,c3,c4,f0,f1,f2,f3,f4⟩:=RdAt.facts HX.out
  go_enter Tryz.func98,Tryz.ntmps98
  go_upto_region 3 with (go_at_call 145;refine(HLo.out _ HR.out.max).mono ?_;rintro e w1 ⟨rfl,hb1⟩)
  have HX1:=hJ (HX.out.bel hb1)
  have HR1:=hJ (HR.out.next hbl hb1)
  have hB1:=But.of_below (b:=b) hb1
  clear c0 c1 c2 c3 c4 f0 f1 f2 f3 f4 HX HR hb1
  obtain⟨c0,c1,c2,c3,c4,f0,f1,f2,f3,f4⟩:=RdAt.facts HX1.out
  go_upto_region 4 with (go_at_call 139;refine(HNx.out _ HR1.out.tabs _ (by omega)).mono ?_;rintro e w2 ⟨rfl,hb2⟩)
  have HX2:=hJ (HX1.out.bel hb2)
  have hB2:=hB1.bel hb2
  clear c0 c1 c2 c3 c4 f0 f1 f2 f3 f4 HX1 HR1 hB1 hb2
  obtain⟨c0,c1,c2,c3,c4,f0,f1,f2,f3,f4⟩:=RdAt.facts HX2.out
  go_wp2_with (go_at_call 94;refine(af9 b s _ _ _ _ HX2.out).mono ?_;rintro e w5 ⟨rfl,hx5,hb5⟩)
  go_ret
  exact⟨rfl,hx5,hB2.trans hb5⟩
 ·clear hk
  have hne:(((p:Nat):Int)+((m:Nat):Int)==(p:Int))=false:=by rw [beq_eq_false_iff_ne];omega
  obtain⟨c0,c1,c2,c3,c4,f0,f1,f2,f3,f4⟩:=RdAt.facts HX.out
  go_enter Tryz.func98,Tryz.ntmps98
  go_upto_region 3 with (go_at_call 145;refine(HLo.out _ HR.out.max).mono ?_;rintro e w1 ⟨rfl,hb1⟩)
  have HX1:=hJ (HX.out.bel hb1)
  have HR1:=hJ (HR.out.next hbl hb1)
  have hB1:=But.of_below (b:=b) hb1
  clear c0 c1 c2 c3 c4 f0 f1 f2 f3 f4 HX HR hb1
  obtain⟨c0,c1,c2,c3,c4,f0,f1,f2,f3,f4⟩:=RdAt.facts HX1.out
  go_upto_region 4 with (go_at_call 139;refine(HNx.out _ HR1.out.tabs _ (by omega)).mono ?_;rintro e w2 ⟨rfl,hb2⟩)
  have HX2:=hJ (HX1.out.bel hb2)
  have hB2:=hB1.bel hb2
  clear c0 c1 c2 c3 c4 f0 f1 f2 f3 f4 HX1 HR1 hB1 hb2
  obtain⟨c0,c1,c2,c3,c4,f0,f1,f2,f3,f4⟩:=RdAt.facts HX2.out
  go_wp2_with (first|(go_at_call 143;refine(HSt.out _).mono ?_;rintro e w3 ⟨rfl,hb3⟩;have HX3:=hJ (HX2.out.bel hb3);have hB3:=hB2.bel hb3;clear c0 c1 c2 c3 c4 f0 f1 f2 f3 f4;obtain⟨c0,c1,c2,c3,c4,f0,f1,f2,f3,f4⟩:=RdAt.facts HX3.out)|(go_at_call 94;refine(af9 b s _ _ _ _ HX3.out).mono ?_;rintro e w5 ⟨rfl,hx5,hb5⟩))
  go_ret
  exact⟨rfl,hx5,hB3.trans hb5⟩
 ·clear hk
  have hne:(((p:Nat):Int)+((m:Nat):Int)==(p:Int))=false:=by rw [beq_eq_false_iff_ne];omega
  obtain⟨c0,c1,c2,c3,c4,f0,f1,f2,f3,f4⟩:=RdAt.facts HX.out
  go_enter Tryz.func98,Tryz.ntmps98
  go_upto_region 3 with (go_at_call 145;refine(HLo.out _ HR.out.max).mono ?_;rintro e w1 ⟨rfl,hb1⟩)
  have HX1:=hJ (HX.out.bel hb1)
  have HR1:=hJ (HR.out.next hbl hb1)
  have hB1:=But.of_below (b:=b) hb1
  clear c0 c1 c2 c3 c4 f0 f1 f2 f3 f4 HX HR hb1
  obtain⟨c0,c1,c2,c3,c4,f0,f1,f2,f3,f4⟩:=RdAt.facts HX1.out
  go_upto_region 4 with (go_at_call 139;refine(HNx.out _ HR1.out.tabs _ (by omega)).mono ?_;rintro e w2 ⟨rfl,hb2⟩)
  have HX2:=hJ (HX1.out.bel hb2)
  have hB2:=hB1.bel hb2
  clear c0 c1 c2 c3 c4 f0 f1 f2 f3 f4 HX1 HR1 hB1 hb2
  obtain⟨c0,c1,c2,c3,c4,f0,f1,f2,f3,f4⟩:=RdAt.facts HX2.out
  go_wp2_with (first|(go_at_call 143;refine(HSt.out _).mono ?_;rintro e w3 ⟨rfl,hb3⟩;have HX3:=hJ (HX2.out.bel hb3);have hB3:=hB2.bel hb3;clear c0 c1 c2 c3 c4 f0 f1 f2 f3 f4;obtain⟨c0,c1,c2,c3,c4,f0,f1,f2,f3,f4⟩:=RdAt.facts HX3.out)|(go_at_call 97;refine(HDg.out _ _ (by omega)).mono ?_;rintro e w4 ⟨rfl,rfl⟩)|(go_at_call 94;refine(af9 b s _ _ _ _ HX3.out).mono ?_;rintro e w5 ⟨rfl,hx5,hb5⟩))
  go_ret
  exact⟨rfl,hx5,hB3.trans hb5⟩
 ·omega
 ·omega
theorem ar1 (b:Nat) (s:ByteArray) (x:Rd) (w:World) (hx:RdAt w b s x) (hr:af5 b w) (hs:s.size≤16777216) (hp:x.at'≤s.size) (hk:0<numL (s.data.toList.drop x.at')):
  Calls Tryz.prog 98 #[.pointer (some ⟨b,0,none⟩)] w fun e w'=>e= .returned (.bool true)∧RdAt w' b s { x with at':=x.at'+numL (s.data.toList.drop x.at') } ∧But b w w':=by
 obtain⟨p,line,fl,cd⟩:=x
 simp only at hp hk⊢
 have hLo:=fun W h=>aE8 (s.extract p s.size) W (by rw [ByteArray.size_extract];omega) h
 have hll:aL7 (s.extract p s.size)=am0 (s.data.toList.drop p):=by unfold am0;rw [am3 (s.extract p s.size) (s.data.toList.drop p) (ag6 s p)]
 rw [hll] at hLo
 have hle:=aC6 (s.data.toList.drop p)
 rw [List.length_drop,ofl] at hle
 have hnum:numL (s.data.toList.drop p)=if 0<(nx (s.data.toList.drop (p+am0 (s.data.toList.drop p)))).2∧(ae5 (nx (s.data.toList.drop (p+am0 (s.data.toList.drop p)))).1=true∨ai8 (s.data.toList.drop (p+am0 (s.data.toList.drop p)))=true) then 0 else am0 (s.data.toList.drop p):=by
  unfold numL
  rw [List.drop_drop]
 have hNx:=fun W h z hz=>aC7 s (p+am0 (s.data.toList.drop p)) W (by omega) h z hz
 have hDg:=fun W z hz=>aq0 s (p+am0 (s.data.toList.drop p)) W z hz
 generalize hm:am0 (s.data.toList.drop p)=m at*
 generalize (nx (s.data.toList.drop (p+m))).1=c at*
 generalize (nx (s.data.toList.drop (p+m))).2=n at*
 have hSt:=fun W=>aq3 c W
 generalize hdg:ai8 (s.data.toList.drop (p+m))=dg at*
 generalize hst:ae5 c=st at*
 generalize numL (s.data.toList.drop p)=k at*
 have HLo:=hJ hLo
 have HNx:=hJ hNx
 have HDg:=hJ hDg
 have HSt:=hJ hSt
 have HX:=hJ hx
 have HR:=hJ hr
 have hbl:=hx.lt
 clear hLo hNx hDg hSt hx hr hll hm hdg hst
 have hcase:(m=0∧k=0)∨(0<m∧0<n∧st=true∧k=0)∨(0<m∧0<n∧st=false∧dg=true∧k=0)∨(0<m∧0<n∧st=false∧dg=false∧k=m)∨(0<m∧n≤0∧k=m):=by
  by_cases hm0:m=0
  ·subst hm0
   refine .inl ⟨rfl,?_⟩
   rw [hnum];split<;>rfl
  ·by_cases hn0:0<n
   ·cases hst:st with
    |true=>exact .inr (.inl ⟨by omega,hn0,rfl,by rw [hnum,if_pos ⟨hn0,.inl hst⟩]⟩)
    |false=>
     cases hdg:dg with
     |true=>exact .inr (.inr (.inl ⟨by omega,hn0,rfl,rfl,by rw [hnum,if_pos ⟨hn0,.inr hdg⟩]⟩))
     |false=>exact .inr (.inr (.inr (.inl ⟨by omega,hn0,rfl,rfl,by rw [hnum,if_neg];rintro⟨_,h|h⟩;exact absurd (hst.symm.trans h) (by decide);exact absurd (hdg.symm.trans h) (by decide)⟩)))
   ·exact .inr (.inr (.inr (.inr ⟨by omega,by omega,by rw [hnum,if_neg (fun h=>hn0 h.1)]⟩)))
 clear hnum
 rcases hcase with ⟨rfl,rfl⟩|⟨h1,h2,rfl,rfl⟩|⟨h1,h2,rfl,rfl,rfl⟩|⟨h1,h2,rfl,rfl,rfl⟩|⟨h1,h2,rfl⟩
 ·omega
 ·omega
 ·omega
 ·clear hk
  have hne:(((p:Nat):Int)+((k:Nat):Int)==(p:Int))=false:=by rw [beq_eq_false_iff_ne];omega
  obtain⟨c0,c1,c2,c3,c4,f0,f1,f2,f3,f4⟩:=RdAt.facts HX.out
  go_enter Tryz.func98,Tryz.ntmps98
  go_upto_region 3 with (go_at_call 145;refine(HLo.out _ HR.out.max).mono ?_;rintro e w1 ⟨rfl,hb1⟩)
  have HX1:=hJ (HX.out.bel hb1)
  have HR1:=hJ (HR.out.next hbl hb1)
  have hB1:=But.of_below (b:=b) hb1
  clear c0 c1 c2 c3 c4 f0 f1 f2 f3 f4 HX HR hb1
  obtain⟨c0,c1,c2,c3,c4,f0,f1,f2,f3,f4⟩:=RdAt.facts HX1.out
  go_upto_region 4 with (go_at_call 139;refine(HNx.out _ HR1.out.tabs _ (by omega)).mono ?_;rintro e w2 ⟨rfl,hb2⟩)
  have HX2:=hJ (HX1.out.bel hb2)
  have hB2:=hB1.bel hb2
  clear c0 c1 c2 c3 c4 f0 f1 f2 f3 f4 HX1 HR1 hB1 hb2
  obtain⟨c0,c1,c2,c3,c4,f0,f1,f2,f3,f4⟩:=RdAt.facts HX2.out
  go_wp2_with (first|(go_at_call 143;refine(HSt.out _).mono ?_;rintro e w3 ⟨rfl,hb3⟩;have HX3:=hJ (HX2.out.bel hb3);have hB3:=hB2.bel hb3;clear c0 c1 c2 c3 c4 f0 f1 f2 f3 f4;obtain⟨c0,c1,c2,c3,c4,f0,f1,f2,f3,f4⟩:=RdAt.facts HX3.out)|(go_at_call 97;refine(HDg.out _ _ (by omega)).mono ?_;rintro e w4 ⟨rfl,rfl⟩))
  go_ret
  exact⟨rfl,RdAt.set (x:=⟨p,line,fl,cd⟩) HX3.out 0 _ rfl,hB3.setCell 0 _⟩
 ·clear hk
  have hne:(((p:Nat):Int)+((k:Nat):Int)==(p:Int))=false:=by rw [beq_eq_false_iff_ne];omega
  obtain⟨c0,c1,c2,c3,c4,f0,f1,f2,f3,f4⟩:=RdAt.facts HX.out
  go_enter Tryz.func98,Tryz.ntmps98
  go_upto_region 3 with (go_at_call 145;refine(HLo.out _ HR.out.max).mono ?_;rintro e w1 ⟨rfl,hb1⟩)
  have HX1:=hJ (HX.out.bel hb1)
  have HR1:=hJ (HR.out.next hbl hb1)
  have hB1:=But.of_below (b:=b) hb1
  clear c0 c1 c2 c3 c4 f0 f1 f2 f3 f4 HX HR hb1
  obtain⟨c0,c1,c2,c3,c4,f0,f1,f2,f3,f4⟩:=RdAt.facts HX1.out
  go_upto_region 4 with (go_at_call 139;refine(HNx.out _ HR1.out.tabs _ (by omega)).mono ?_;rintro e w2 ⟨rfl,hb2⟩)
  have HX2:=hJ (HX1.out.bel hb2)
  have hB2:=hB1.bel hb2
  clear c0 c1 c2 c3 c4 f0 f1 f2 f3 f4 HX1 HR1 hB1 hb2
  obtain⟨c0,c1,c2,c3,c4,f0,f1,f2,f3,f4⟩:=RdAt.facts HX2.out
  go_wp2_with fail
  go_ret
  exact⟨rfl,RdAt.set (x:=⟨p,line,fl,cd⟩) HX2.out 0 _ rfl,hB2.setCell 0 _⟩
end
section
open Go.RowKit
structure Cm where
 kind:Int
 text:ByteArray
 from':Int
 till:Int
def Cm.cells (x:Cm):Array Value:= #[.int .i64 x.kind,.string x.text,.int .i64 x.from',.int .i64 x.till]
def Cm.val (x:Cm):Value:= .agg x.cells
def CmAt (w:World) (g:Nat) (x:Cm):Prop:=w.heap[g]? =some (.cells x.cells 115 (0,0))
theorem CmAt.lt {w:World} {g:Nat} {x:Cm} (h:CmAt w g x):g<w.heap.size:=(Array.getElem?_eq_some_iff.1 h).1
theorem CmAt.bel {w w':World} {g:Nat} {x:Cm} (h:CmAt w g x) (hb:Below w.heap.size w w'):CmAt w' g x:=(hb.block g h.lt).trans h
theorem CmAt.but {w w':World} {g b:Nat} {x:Cm} (h:CmAt w g x) (hb:But b w w') (hg:g≠b):CmAt w' g x:=(hb.block g h.lt hg).trans h
theorem CmAt.cell {w:World} {g:Nat} {x:Cm} (h:CmAt w g x) (k:Nat):w.cell? ⟨g,k,none⟩=x.cells[k]? :=by
 unfold CmAt at h
 simp [World.cell?,h]
theorem CmAt.frozen {w:World} {g:Nat} {x:Cm} (h:CmAt w g x) (k:Nat):w.frozen? ⟨g,k,none⟩=false:=frozen_of_row w g k x.cells _ h
theorem CmAt.set {w:World} {g:Nat} {x y:Cm} (h:CmAt w g x) (k:Nat) (v:Value) (hy:x.cells.setIfInBounds k v=y.cells):CmAt (w.setCell ⟨g,k,none⟩ v) g y:=by
 have:=heap_setCell_same w g k x.cells 115 v h
 rw [hy] at this
 exact this
theorem CmAt.other {w:World} {g b:Nat} {x:Cm} (h:CmAt w g x) (hb:g≠b) (k:Nat) (v:Value):CmAt (w.setCell ⟨b,k,none⟩ v) g x:=(Below.heap_setCell _ _ _ _ hb).trans h
theorem RdAt.other {w:World} {g b:Nat} {s:ByteArray} {x:Rd} (h:RdAt w b s x) (hb:b≠g) (k:Nat) (v:Value):RdAt (w.setCell ⟨g,k,none⟩ v) b s x:=(Below.heap_setCell _ _ _ _ hb).trans h
theorem CmAt.facts {w:World} {g:Nat} {kind from' till:Int} {text:ByteArray} (h:CmAt w g ⟨kind,text,from',till⟩):
  w.cell? ⟨g,0,none⟩=some (.int .i64 kind)∧w.cell? ⟨g,1,none⟩=some (.string text)∧w.cell? ⟨g,2,none⟩=some (.int .i64 from')∧w.cell? ⟨g,3,none⟩=some (.int .i64 till)∧
  w.frozen? ⟨g,0,none⟩=false∧w.frozen? ⟨g,1,none⟩=false∧w.frozen? ⟨g,2,none⟩=false∧w.frozen? ⟨g,3,none⟩=false:=
 ⟨h.cell 0,h.cell 1,h.cell 2,h.cell 3,h.frozen 0,h.frozen 1,h.frozen 2,h.frozen 3⟩
theorem CmAt.lay {w:World} {g:Nat} {k0 f0 t0 kind from' till:Int} {x0 text:ByteArray} (h:CmAt w g ⟨k0,x0,f0,t0⟩):
  CmAt ((((w.setCell ⟨g,0,none⟩ (.int .i64 kind)).setCell ⟨g,1,none⟩ (.string text)).setCell ⟨g,2,none⟩ (.int .i64 from')).setCell ⟨g,3,none⟩ (.int .i64 till)) g ⟨kind,text,from',till⟩:=
 CmAt.set (x:=⟨kind,text,from',t0⟩) (CmAt.set (x:=⟨kind,text,f0,t0⟩) (CmAt.set (x:=⟨kind,x0,f0,t0⟩) (CmAt.set (x:=⟨k0,x0,f0,t0⟩) h 0 _ rfl) 1 _ rfl) 2 _ rfl) 3 _ rfl
theorem bx5 {w w':World} {b g:Nat} {kind from' till:Int} {text:ByteArray} (h:But b w w') (hg:w.heap.size≤g):
  But b w ((((w'.setCell ⟨g,0,none⟩ (.int .i64 kind)).setCell ⟨g,1,none⟩ (.string text)).setCell ⟨g,2,none⟩ (.int .i64 from')).setCell ⟨g,3,none⟩ (.int .i64 till)):=
 ⟨h.os,h.tape,h.output,by have:=h.size;simpa [World.setCell] using this,fun k h1 h2=>by
  rw [Below.heap_setCell _ _ _ _ (show k≠g by omega),Below.heap_setCell _ _ _ _ (show k≠g by omega),Below.heap_setCell _ _ _ _ (show k≠g by omega),Below.heap_setCell _ _ _ _ (show k≠g by omega)]
  exact h.block k h1 h2⟩
theorem bJ4 {w:World} {g:Nat} {x:Cm} (h:CmAt w g x):(loadVar 115 ⟨g,0,none⟩).run Tryz.prog w= .ok x.val w:=
 run_loadVar_row w g 115 115 x.cells (0,0) _ h Tryz.underlying115 rfl (by kernel_rfl)
theorem af1 {fn:Func} {p u:Tmp} (h:fn.results= #[.cell p 115,.tmp u]) (tmps:Array Value) (w:World) (g:Nat) (x:Cm) (hp:tmps.getD p undef= .pointer (some ⟨g,0,none⟩)) (hx:CmAt w g x):
  (results fn tmps).run Tryz.prog w= .ok (.tuple #[x.val,tmps.getD u undef]) w:=by
 have hp':tmps[p]?.getD undef= .pointer (some ⟨g,0,none⟩):=by simpa using hp
 simp [results,h,hp',asAddr,bJ4 hx]
inductive CmO where
 |fine (n:Nat) (ln:Bool)
 |bad (off:Nat) (code:Int)
def CmO.shift (m:Nat) (l:Bool):CmO→CmO
 | .fine n ln=> .fine (m+n) (l||ln)
 | .bad off code=> .bad (m+off) code
def cmtF (blk:Bool):Nat→List UInt8→CmO
 |0,_=> .bad 0 0
 |f+1,l=>
  if blk=true∧Lib.hasPrefix l [42,47]=true then .fine 2 false
  else if (nx l).2=0 then (if blk=true then .bad 0 507 else .fine 0 false)
  else if (nx l).2<0 then .bad 0 502
  else if blk=false∧am4 (nx l).1=true then .fine 0 false
  else (cmtF blk f (l.drop (nx l).2.toNat)).shift (nx l).2.toNat (am4 (nx l).1)
theorem aN5 (blk:Bool): ∀(f g:Nat) (l:List UInt8),l.length<f→l.length<g→cmtF blk f l=cmtF blk g l
 |0,_,_,h,_=>by omega
 |_+1,0,_,_,h=>by omega
 |f+1,g+1,l,h1,h2=>by
  rw [cmtF,cmtF]
  by_cases e0:(nx l).2<0
  ·simp only [if_pos e0]
  ·by_cases e1:(nx l).2=0
   ·simp only [if_pos e1]
   ·obtain⟨n,h3,h4,h5,h6⟩:=af8 (l:=l) (by omega)
    rw [aN5 blk f g (l.drop (nx l).2.toNat) (by rw [List.length_drop];omega) (by rw [List.length_drop];omega)]
def cmt (blk:Bool) (l:List UInt8):CmO:=cmtF blk (l.length+1) l
theorem aK7 (blk:Bool) (l:List UInt8):cmt blk l=
  if blk=true∧Lib.hasPrefix l [42,47]=true then .fine 2 false
  else if (nx l).2=0 then (if blk=true then .bad 0 507 else .fine 0 false)
  else if (nx l).2<0 then .bad 0 502
  else if blk=false∧am4 (nx l).1=true then .fine 0 false
  else (cmt blk (l.drop (nx l).2.toNat)).shift (nx l).2.toNat (am4 (nx l).1):=by
 unfold cmt
 rw [cmtF]
 by_cases e0:(nx l).2<0
 ·simp only [if_pos e0]
 ·by_cases e1:(nx l).2=0
  ·simp only [if_pos e1]
  ·obtain⟨n,h3,h4,h5,h6⟩:=af8 (l:=l) (by omega)
   have hn0:n≠0:=by omega
   have hl:l≠ []:=fun e=>hn0 (h6.1 e)
   have hl2:=List.length_pos_iff.2 hl
   rw [aN5 blk l.length ((l.drop (nx l).2.toNat).length+1) (l.drop (nx l).2.toNat) (by rw [List.length_drop];omega) (by rw [List.length_drop];omega)]
theorem shift_shift (o:CmO) (m k:Nat) (a c:Bool):(o.shift m a).shift k c=o.shift (k+m) (c||a):=by
 cases o with
 |fine n ln=>simp [CmO.shift,Nat.add_assoc,Bool.or_assoc]
 |bad off code=>simp [CmO.shift,Nat.add_assoc]
end
section
open Go.RowKit
theorem ae1 (b:Nat) (s:ByteArray) (x:Rd) (l:List UInt8) (w:World) (hx:RdAt w b s x) (hp:x.at'≤s.size):
  Calls Tryz.prog 92 #[.pointer (some ⟨b,0,none⟩),.string ⟨l.toArray⟩] w fun e w'=>e= .returned (.bool (Lib.hasPrefix (s.data.toList.drop x.at') l))∧Below w.heap.size w w':=bH5 b s x ⟨l.toArray⟩ w hx hp
structure Cst (b g r:Nat) (s:ByteArray) (w0:World) (x:Rd) (c:Cm) (w:World):Prop where
 rd:RdAt w b s x
 cm:CmAt w g c
 rs:CmAt w r ⟨0,⟨#[]⟩,0,0⟩
 but:But b w0 w
 rdy:af5 b w
 le:x.at'≤s.size
 gg:w0.heap.size≤g
 rr:w0.heap.size≤r
 gb:g≠b
 rb:r≠b
 gr:g≠r
theorem Cst.bel {b g r:Nat} {s:ByteArray} {w0 w w':World} {x:Rd} {c:Cm} (h:Cst b g r s w0 x c w) (hb:Below w.heap.size w w'):Cst b g r s w0 x c w':=
 ⟨h.rd.bel hb,h.cm.bel hb,h.rs.bel hb,h.but.bel hb,h.rdy.next h.rd.lt hb,h.le,h.gg,h.rr,h.gb,h.rb,h.gr⟩
theorem Cst.step {b g r:Nat} {s:ByteArray} {w0 w w':World} {x y:Rd} {c:Cm} (h:Cst b g r s w0 x c w) (hx:RdAt w' b s y) (hb:But b w w') (hl:y.at'≤s.size):Cst b g r s w0 y c w':=
 ⟨hx,h.cm.but hb h.gb,h.rs.but hb h.rb,h.but.trans hb,h.rdy.but h.rd.lt hb,hl,h.gg,h.rr,h.gb,h.rb,h.gr⟩
theorem Cst.setRd {b g r:Nat} {s:ByteArray} {w0 w:World} {x y:Rd} {c:Cm} (h:Cst b g r s w0 x c w) (k:Nat) (v:Value) (hy:(x.cells s).setIfInBounds k v=y.cells s) (hl:y.at'≤s.size):Cst b g r s w0 y c (w.setCell ⟨b,k,none⟩ v):=
 h.step (h.rd.set k v hy) ((But.refl b w).setCell k v) hl
theorem bm0 {b g:Nat} {w:World} (h:af5 b w) (hg:b≤g) (k:Nat) (v:Value):af5 b (w.setCell ⟨g,k,none⟩ v):=h.bel ((Below.refl b w).setCell (p:=⟨g,k,none⟩) hg v)
theorem Cst.setCm {b g r:Nat} {s:ByteArray} {w0 w:World} {x:Rd} {c d:Cm} (h:Cst b g r s w0 x c w) (hbg:b<w0.heap.size) (k:Nat) (v:Value) (hy:c.cells.setIfInBounds k v=d.cells):Cst b g r s w0 x d (w.setCell ⟨g,k,none⟩ v):=
 ⟨h.rd.other (Ne.symm h.gb) k v,h.cm.set k v hy,h.rs.other (Ne.symm h.gr) k v,⟨h.but.os,h.but.tape,h.but.output,by have:=h.but.size;simpa [World.setCell] using this,fun i h1 h2=>by
  rw [Below.heap_setCell _ _ _ _ (show i≠g by have:=h.gg;omega)]
  exact h.but.block i h1 h2⟩,bm0 h.rdy (by have:=h.gg;omega) k v,h.le,h.gg,h.rr,h.gb,h.rb,h.gr⟩
theorem bD8 {w:World} (a c:Cm):CmAt ((w.alloc (.cells a.cells 115)).alloc (.cells c.cells 115)) w.heap.size a∧CmAt ((w.alloc (.cells a.cells 115)).alloc (.cells c.cells 115)) (w.heap.size+1) c:=by
 constructor
 ·exact(Below.heap_alloc _ _ _ (by rw [World.size_alloc];omega)).trans (heap_alloc_new _ _)
 ·have h:=heap_alloc_new (w.alloc (.cells a.cells 115)) (.cells c.cells 115)
  rw [World.size_alloc] at h
  exact h
theorem ay2 {b:Nat} {s:ByteArray} {w:World} {x:Rd} (hx:RdAt w b s x) (hr:af5 b w) (hp:x.at'≤s.size) (c:Cm):
  Cst b (w.heap.size+1) w.heap.size s w x c ((w.alloc (.cells (Cm.cells ⟨0,⟨#[]⟩,0,0⟩) 115)).alloc (.cells c.cells 115)):=by
 obtain⟨h1,h2⟩:=bD8 (w:=w) ⟨0,⟨#[]⟩,0,0⟩ c
 have hb:Below w.heap.size w ((w.alloc (.cells (Cm.cells ⟨0,⟨#[]⟩,0,0⟩) 115)).alloc (.cells c.cells 115)):=aG7 _ _ _
 have hl:=hx.lt
 exact⟨hx.bel hb,h2,h1,.of_below hb,hr.next hl hb,hp,by omega,Nat.le_refl _,by omega,by omega,by omega⟩
theorem Cst.ret {b g r:Nat} {s:ByteArray} {w0 w:World} {x:Rd} {c:Cm} {kind from' till:Int} {text:ByteArray} (h:Cst b g r s w0 x c w):
  RdAt ((((w.setCell ⟨r,0,none⟩ (.int .i64 kind)).setCell ⟨r,1,none⟩ (.string text)).setCell ⟨r,2,none⟩ (.int .i64 from')).setCell ⟨r,3,none⟩ (.int .i64 till)) b s x∧
  But b w0 ((((w.setCell ⟨r,0,none⟩ (.int .i64 kind)).setCell ⟨r,1,none⟩ (.string text)).setCell ⟨r,2,none⟩ (.int .i64 from')).setCell ⟨r,3,none⟩ (.int .i64 till)):=
 ⟨(((h.rd.other (Ne.symm h.rb) 0 _).other (Ne.symm h.rb) 1 _).other (Ne.symm h.rb) 2 _).other (Ne.symm h.rb) 3 _,bx5 h.but h.rr⟩
def as1 (b:Nat) (s:ByteArray) (p:Nat) (line:Bool) (fl cd:Int) (K:Int) (w:World) (o:CmO) (e:Ending) (w':World):Prop:=match o with
 | .fine n ln=>e= .returned (.tuple #[(⟨K,s.extract p (p+2+n),p,((p+2+n:Nat):Int)⟩:Cm).val,.bool true])∧RdAt w' b s ⟨p+2+n,line||ln,fl,cd⟩∧But b w w'
 | .bad off code=> ∃(c:Cm) (x':Rd),e= .returned (.tuple #[c.val,.bool false])∧RdAt w' b s x'∧x'.code=code∧x'.fail=(if code=507 then (p:Int) else ((p+2+off:Nat):Int))∧But b w w'
theorem bb3 (b:Nat) (s:ByteArray) (x:Rd) (w:World) (hx:RdAt w b s x) (hr:af5 b w) (hp:x.at'≤s.size)
  (h1:Lib.hasPrefix (s.data.toList.drop x.at') [47,47]=false) (h2:Lib.hasPrefix (s.data.toList.drop x.at') [47,42]=false) (h3:x.at'=0→Lib.hasPrefix (s.data.toList.drop x.at') [35,33]=false):
  Calls Tryz.prog 88 #[.pointer (some ⟨b,0,none⟩)] w fun e w'=> ∃c:Cm,e= .returned (.tuple #[c.val,.bool false])∧RdAt w' b s x∧But b w w':=by
 obtain⟨p,line,fl,cd⟩:=x
 simp only at hp h1 h2 h3⊢
 have hk:=ay2 hx hr hp ⟨0,⟨#[]⟩,p,0⟩
 have hbl:=hx.lt
 obtain⟨c0,c1,c2,c3,c4,f0,f1,f2,f3,f4⟩:=RdAt.facts hx
 have c0':(w.alloc (.cells (Cm.cells ⟨0,⟨#[]⟩,0,0⟩) 115)).cell? ⟨b,0,none⟩=some (.int .i64 p):=((hx.bel (al5 (Below.refl _ _) _)).cell 0)
 clear hx hr
 go_enter Tryz.func88,Tryz.ntmps88
 go_upto_region 3 with fail
 have e0:((w.alloc (.cells (Cm.cells ⟨0,⟨#[]⟩,0,0⟩) 115)).alloc (.cells (Cm.cells ⟨0,⟨#[]⟩,p,0⟩) 115))=((w.alloc (.cells #[.int .i64 0,.string ⟨#[]⟩,.int .i64 0,.int .i64 0] 115)).alloc (.cells #[.int .i64 0,.string ⟨#[]⟩,.int .i64 p,.int .i64 0] 115)):=rfl
 rw [e0] at hk
 generalize ((w.alloc (.cells #[.int .i64 0,.string ⟨#[]⟩,.int .i64 0,.int .i64 0] 115)).alloc (.cells #[.int .i64 0,.string ⟨#[]⟩,.int .i64 p,.int .i64 0] 115))=w1 at*
 clear c0 c1 c2 c3 c4 f0 f1 f2 f3 f4 e0 c0'
 have HBL:=hJ hbl
 have HK:=hJ hk
 clear hk hbl
 generalize hgg:w.heap.size+1=g at*
 clear hgg
 generalize hrr:w.heap.size=r at*
 rw [←hrr] at HBL
 clear hrr
 obtain⟨c0,c1,c2,c3,c4,f0,f1,f2,f3,f4⟩:=RdAt.facts HK.out.rd;obtain⟨d0,d1,d2,d3,g0,g1,g2,g3⟩:=CmAt.facts HK.out.cm;obtain⟨z0,z1,z2,z3,y0,y1,y2,y3⟩:=CmAt.facts HK.out.rs
 by_cases hp0:p=0
 ·have h4:=h3 hp0
  have hpz:((p:Int)==0)=true:=by rw [beq_iff_eq];omega
  clear h3 hp0
  go_wp2_with (go_at_call 92;refine(ae1 b s _ _ _ HK.out.rd HK.out.le).mono ?_;rintro e w9 ⟨rfl,hb⟩;clear c0 c1 c2 c3 c4 f0 f1 f2 f3 f4 d0 d1 d2 d3 g0 g1 g2 g3 z0 z1 z2 z3 y0 y1 y2 y3;replace HK:=hJ (HK.out.bel hb);clear hb;obtain⟨c0,c1,c2,c3,c4,f0,f1,f2,f3,f4⟩:=RdAt.facts HK.out.rd;obtain⟨d0,d1,d2,d3,g0,g1,g2,g3⟩:=CmAt.facts HK.out.cm;obtain⟨z0,z1,z2,z3,y0,y1,y2,y3⟩:=CmAt.facts HK.out.rs)
  (try simp only [Exit.inBlock,Exit.then])
  refine bodyPost_ret (af1 rfl _ _ _ _ rfl (CmAt.lay HK.out.rs)) rfl ?_
  exact⟨_,rfl,HK.out.ret⟩
 ·have hpz:((p:Int)==0)=false:=by rw [beq_eq_false_iff_ne];omega
  clear h3 hp0
  go_wp2_with (go_at_call 92;refine(ae1 b s _ _ _ HK.out.rd HK.out.le).mono ?_;rintro e w9 ⟨rfl,hb⟩;clear c0 c1 c2 c3 c4 f0 f1 f2 f3 f4 d0 d1 d2 d3 g0 g1 g2 g3 z0 z1 z2 z3 y0 y1 y2 y3;replace HK:=hJ (HK.out.bel hb);clear hb;obtain⟨c0,c1,c2,c3,c4,f0,f1,f2,f3,f4⟩:=RdAt.facts HK.out.rd;obtain⟨d0,d1,d2,d3,g0,g1,g2,g3⟩:=CmAt.facts HK.out.cm;obtain⟨z0,z1,z2,z3,y0,y1,y2,y3⟩:=CmAt.facts HK.out.rs)
  (try simp only [Exit.inBlock,Exit.then])
  refine bodyPost_ret (af1 rfl _ _ _ _ rfl (CmAt.lay HK.out.rs)) rfl ?_
  exact⟨_,rfl,HK.out.ret⟩
end
section
open Go.RowKit
theorem ad5 {l p:List UInt8} (h:Lib.hasPrefix l p=true):p.length≤l.length:=by
 unfold Lib.hasPrefix at h
 exact(List.isPrefixOf_iff_prefix.1 h).length_le
theorem af4 (c:UInt8) (t:List UInt8) (h:c.toNat<128):nx (c::t)=(((c.toNat:Nat):Int),(1:Int)):=by
 have hd:Lib.decodeGo ⟨(c::t).toArray⟩=(c.toNat,1):=by
  unfold Lib.decodeGo
  rw [if_neg (show¬(ByteArray.mk (c::t).toArray).size=0 from fun e=>by cases e),Lib.decode_at]
  have hg:(ByteArray.mk (c::t).toArray).get! 0=c:=rfl
  rw [hg]
  unfold Lib.decodeN
  rw [if_pos h]
 unfold nx
 rw [hd]
 simp only
 rw [if_neg (by omega)]
 rfl
theorem aS8 (l:List UInt8) (h:Lib.hasPrefix l [42,47]=true):(nx l).2=1:=by
 unfold Lib.hasPrefix at h
 cases l with
 |nil=>cases h
 |cons c t=>
  rw [List.isPrefixOf_cons_cons,Bool.and_eq_true,beq_iff_eq] at h
  rw [←h.1,af4 _ _ (by decide)]
theorem Cst.drew {b g r:Nat} {s:ByteArray} {w0 w:World} {x:Rd} {c:Cm} (h:Cst b g r s w0 x c w):Cst b g r s w0 x c w.drew:=
 ⟨h.rd,h.cm,h.rs,⟨h.but.os,h.but.tape,h.but.output,h.but.size,h.but.block⟩,h.rdy.bel (Below.drew (Below.refl _ _)),h.le,h.gg,h.rr,h.gb,h.rb,h.gr⟩
def bx3 (b g r:Nat) (s:ByteArray) (w:World) (p:Nat) (line:Bool) (fl cd K:Int) (blk:Bool) (wr:World):Prop:=
 ∃(k:Nat) (ln:Bool),p+2≤k∧Cst b g r s w ⟨k,line||ln,fl,cd⟩ ⟨K,⟨#[]⟩,p,0⟩ wr∧cmt blk (s.data.toList.drop (p+2))=(cmt blk (s.data.toList.drop k)).shift (k - (p+2)) ln
theorem bf9 (b:Nat) (s:ByteArray) (x:Rd) (w:World) (hx:RdAt w b s x) (hr:af5 b w) (hs:s.size≤16777216) (hp:x.at'≤s.size) (h1:Lib.hasPrefix (s.data.toList.drop x.at') [47,47]=true):
  Calls Tryz.prog 88 #[.pointer (some ⟨b,0,none⟩)] w fun e w'=>as1 b s x.at' x.line x.fail x.code 1 w (cmt false (s.data.toList.drop (x.at'+2))) e w':=by
 obtain⟨p,line,fl,cd⟩:=x
 simp only at hp h1⊢
 have hk:=ay2 hx hr hp ⟨0,⟨#[]⟩,p,0⟩
 have hbl:=hx.lt
 obtain⟨c0,c1,c2,c3,c4,f0,f1,f2,f3,f4⟩:=RdAt.facts hx
 have c0':(w.alloc (.cells (Cm.cells ⟨0,⟨#[]⟩,0,0⟩) 115)).cell? ⟨b,0,none⟩=some (.int .i64 p):=((hx.bel (al5 (Below.refl _ _) _)).cell 0)
 clear hx hr
 go_enter Tryz.func88,Tryz.ntmps88
 go_upto_region 3 with fail
 have e0:((w.alloc (.cells (Cm.cells ⟨0,⟨#[]⟩,0,0⟩) 115)).alloc (.cells (Cm.cells ⟨0,⟨#[]⟩,p,0⟩) 115))=((w.alloc (.cells #[.int .i64 0,.string ⟨#[]⟩,.int .i64 0,.int .i64 0] 115)).alloc (.cells #[.int .i64 0,.string ⟨#[]⟩,.int .i64 p,.int .i64 0] 115)):=rfl
 rw [e0] at hk
 generalize ((w.alloc (.cells #[.int .i64 0,.string ⟨#[]⟩,.int .i64 0,.int .i64 0] 115)).alloc (.cells #[.int .i64 0,.string ⟨#[]⟩,.int .i64 p,.int .i64 0] 115))=w1 at*
 clear c0 c1 c2 c3 c4 f0 f1 f2 f3 f4 e0 c0'
 have HBL:=hJ hbl
 have HK:=hJ hk
 clear hk hbl
 generalize hgg:w.heap.size+1=g at*
 clear hgg
 generalize hrr:w.heap.size=r at*
 rw [←hrr] at HBL
 clear hrr
 obtain⟨c0,c1,c2,c3,c4,f0,f1,f2,f3,f4⟩:=RdAt.facts HK.out.rd;obtain⟨d0,d1,d2,d3,g0,g1,g2,g3⟩:=CmAt.facts HK.out.cm;obtain⟨z0,z1,z2,z3,y0,y1,y2,y3⟩:=CmAt.facts HK.out.rs
 have hl2:=ad5 h1
 rw [List.length_drop,ofl] at hl2
 have hp2:p+2≤s.size:=by simp at hl2;omega
 clear hl2
 go_upto_region 4 with (go_at_call 92;refine(ae1 b s _ _ _ HK.out.rd HK.out.le).mono ?_;rintro e w9 ⟨rfl,hb⟩;clear c0 c1 c2 c3 c4 f0 f1 f2 f3 f4 d0 d1 d2 d3 g0 g1 g2 g3 z0 z1 z2 z3 y0 y1 y2 y3;replace HK:=hJ (HK.out.bel hb);clear hb;obtain⟨c0,c1,c2,c3,c4,f0,f1,f2,f3,f4⟩:=RdAt.facts HK.out.rd;obtain⟨d0,d1,d2,d3,g0,g1,g2,g3⟩:=CmAt.facts HK.out.cm;obtain⟨z0,z1,z2,z3,y0,y1,y2,y3⟩:=CmAt.facts HK.out.rs)
 have hk:=HK.out.setCm HBL.out (d:=⟨1,⟨#[]⟩,p,0⟩) 0 (.int .i64 1) rfl
 go_upto_region 9 with fail
 clear c0 c1 c2 c3 c4 f0 f1 f2 f3 f4 d0 d1 d2 d3 g0 g1 g2 g3 z0 z1 z2 z3 y0 y1 y2 y3
 clear HK
 generalize World.setCell _ _ _=w3 at*
 have HK:=hJ hk
 clear hk
 obtain⟨c0,c1,c2,c3,c4,f0,f1,f2,f3,f4⟩:=RdAt.facts HK.out.rd;obtain⟨d0,d1,d2,d3,g0,g1,g2,g3⟩:=CmAt.facts HK.out.cm;obtain⟨z0,z1,z2,z3,y0,y1,y2,y3⟩:=CmAt.facts HK.out.rs
 go_wp2_with fail
 have hk:=HK.out.setRd (y:=⟨p+2,line,fl,cd⟩) 0 (.int .i64 ((p:Int)+2)) rfl hp2
 clear c0 c1 c2 c3 c4 f0 f1 f2 f3 f4 d0 d1 d2 d3 g0 g1 g2 g3 z0 z1 z2 z3 y0 y1 y2 y3
 clear HK
 generalize World.setCell _ _ _=w4 at*
 have HK:=hJ hk
 clear hk h1
 go_loopw [5,6,7] (fun _ _ _ wr=>bx3 b g r s w p line fl cd 1 false wr) (fun _ _ _ wr=>s.size - aH6 wr b)
 case atStart=>
  refine⟨p+2,false,Nat.le_refl _,by rw [Bool.or_false];exact HK.out,?_⟩
  rw [Nat.sub_self]
  cases cmt false (s.data.toList.drop (p+2))<;>simp [CmO.shift]
 case round=>
  obtain⟨k,ln,hk,hcst,heq⟩:=hrel
  have hle:=hcst.le
  simp only at hle
  have HPOS:=hJ hcst.rd.pos
  have hst:=aK7 false (s.data.toList.drop k)
  have hnx:=fun W hx hr=>af2 b s ⟨k,line||ln,fl,cd⟩ W hx hr hle
  have hpb:=fun W hx hr hn=>ar5 b s ⟨k,line||ln,fl,cd⟩ W hx hr hle hn
  have hpg:=fun W m hx hr hn=>af0 b s ⟨k,line||ln,fl,cd⟩ W m hx hr hs hle hn
  have hpgt:=fun W m hx hr hn=>af0 b s ⟨k,true,fl,cd⟩ W m hx hr hs hle hn
  have hge:=bB0 (s.data.toList.drop k)
  have hn1:=aS8 (s.data.toList.drop k)
  have hpz:=fun h=>af8 (l:=s.data.toList.drop k) h
  rw [List.length_drop,ofl] at hpz
  have hdd:=fun m:Nat=>(List.drop_drop (i:=m) (j:=k) (l:=s.data.toList))
  have hends:=fun W=>au1 (nx (s.data.toList.drop k)).1 W
  clear HK
  have HK:=hJ hcst
  clear hcst
  simp only at hnx hpb hpg hpgt
  generalize he:am4 (nx (s.data.toList.drop k)).1=ed at*
  generalize hc:(nx (s.data.toList.drop k)).1=c at*
  generalize hn:(nx (s.data.toList.drop k)).2=n at*
  clear he hc hn
  have HNX:=hJ hnx
  have HPB:=hJ hpb
  have HPG:=hJ hpg
  have HPGT:=hJ hpgt
  have HPZ:=hJ hpz
  have HEN:=hJ hends
  have HEQ:=hJ heq
  have HST:=hJ hst
  have HDD:=hJ hdd
  have HN1:=hJ hn1
  clear hnx hpb hpg hpgt hpz hends heq hst hdd hn1
  obtain⟨c0,c1,c2,c3,c4,f0,f1,f2,f3,f4⟩:=RdAt.facts HK.out.rd;obtain⟨d0,d1,d2,d3,g0,g1,g2,g3⟩:=CmAt.facts HK.out.cm;obtain⟨z0,z1,z2,z3,y0,y1,y2,y3⟩:=CmAt.facts HK.out.rs
  by_cases h0:n=0
  ·have HF:=hJ (show cmt false (s.data.toList.drop (p+2))= .fine (k - (p+2)) ln by rw [HEQ.out,HST.out,if_neg (fun h=>by cases h.1),if_pos h0,if_neg (by decide)];simp [CmO.shift])
   clear HEQ HST
   go_upto_region 22 with (go_at_call 85;refine(HNX.out _ HK.out.rd HK.out.rdy).mono ?_;rintro e w9 ⟨rfl,hb⟩;clear c0 c1 c2 c3 c4 f0 f1 f2 f3 f4 d0 d1 d2 d3 g0 g1 g2 g3 z0 z1 z2 z3 y0 y1 y2 y3;replace HK:=hJ (HK.out.bel hb);clear hb;obtain⟨c0,c1,c2,c3,c4,f0,f1,f2,f3,f4⟩:=RdAt.facts HK.out.rd;obtain⟨d0,d1,d2,d3,g0,g1,g2,g3⟩:=CmAt.facts HK.out.cm;obtain⟨z0,z1,z2,z3,y0,y1,y2,y3⟩:=CmAt.facts HK.out.rs)
   go_upto_region 23 with fail
   have hkc:=HK.out.setCm HBL.out (d:=⟨1,⟨#[]⟩,p,(k:Int)⟩) 3 (.int .i64 ((k:Int))) rfl
   clear c0 c1 c2 c3 c4 f0 f1 f2 f3 f4 d0 d1 d2 d3 g0 g1 g2 g3 z0 z1 z2 z3 y0 y1 y2 y3
   clear HK
   generalize World.setCell _ _ _=w5 at*
   have HK:=hJ hkc
   clear hkc
   obtain⟨c0,c1,c2,c3,c4,f0,f1,f2,f3,f4⟩:=RdAt.facts HK.out.rd;obtain⟨d0,d1,d2,d3,g0,g1,g2,g3⟩:=CmAt.facts HK.out.cm;obtain⟨z0,z1,z2,z3,y0,y1,y2,y3⟩:=CmAt.facts HK.out.rs
   go_cut [113] from 105 to 114 (fun _ wx=>Cst b g r s w ⟨k,line||ln,fl,cd⟩ ⟨1,s.extract p (k),p,(k:Int)⟩ wx)
   case first=>
    have hkd:=(HK.out.setCm HBL.out (d:=⟨1,s.extract p (k),p,(k:Int)⟩) 1 (.string (s.extract p (k))) rfl).drew
    go_region
    all_goals go_wp2_with fail
    all_goals go_meet
    all_goals exact hkd
   case rest=>
    clear c0 c1 c2 c3 c4 f0 f1 f2 f3 f4 d0 d1 d2 d3 g0 g1 g2 g3 z0 z1 z2 z3 y0 y1 y2 y3
    clear HK
    have HK:=hJ hcut
    clear hcut
    obtain⟨c0,c1,c2,c3,c4,f0,f1,f2,f3,f4⟩:=RdAt.facts HK.out.rd;obtain⟨d0,d1,d2,d3,g0,g1,g2,g3⟩:=CmAt.facts HK.out.cm;obtain⟨z0,z1,z2,z3,y0,y1,y2,y3⟩:=CmAt.facts HK.out.rs
    go_wp2_with fail
    (try simp only [Exit.inBlock,Exit.then])
    refine bodyPost_ret (af1 rfl _ _ _ _ rfl (CmAt.lay HK.out.rs)) rfl ?_
    have hkn:p+2+(k - (p+2))=k:=by omega
    rw [HF.out]
    unfold as1
    simp only [hkn]
    exact⟨rfl,HK.out.ret⟩
  ·by_cases hn0:n<0
   ·have HF:=hJ (show cmt false (s.data.toList.drop (p+2))= .bad (k - (p+2)) 502 by rw [HEQ.out,HST.out,if_neg (fun h=>by cases h.1),if_neg h0,if_pos hn0];simp [CmO.shift])
    clear HEQ HST
    go_wp2_with (first|(go_at_call 85;refine(HNX.out _ HK.out.rd HK.out.rdy).mono ?_;rintro e w9 ⟨rfl,hb⟩;clear c0 c1 c2 c3 c4 f0 f1 f2 f3 f4 d0 d1 d2 d3 g0 g1 g2 g3 z0 z1 z2 z3 y0 y1 y2 y3;replace HK:=hJ (HK.out.bel hb);clear hb;obtain⟨c0,c1,c2,c3,c4,f0,f1,f2,f3,f4⟩:=RdAt.facts HK.out.rd;obtain⟨d0,d1,d2,d3,g0,g1,g2,g3⟩:=CmAt.facts HK.out.cm;obtain⟨z0,z1,z2,z3,y0,y1,y2,y3⟩:=CmAt.facts HK.out.rs)|(go_at_call 91;refine(HPB.out _ HK.out.rd HK.out.rdy hn0).mono ?_;rintro e w9 ⟨rfl,hx9,hb9⟩;clear c0 c1 c2 c3 c4 f0 f1 f2 f3 f4 d0 d1 d2 d3 g0 g1 g2 g3 z0 z1 z2 z3 y0 y1 y2 y3;replace HK:=hJ (HK.out.step hx9 hb9 hle);clear hx9 hb9;obtain⟨c0,c1,c2,c3,c4,f0,f1,f2,f3,f4⟩:=RdAt.facts HK.out.rd;obtain⟨d0,d1,d2,d3,g0,g1,g2,g3⟩:=CmAt.facts HK.out.cm;obtain⟨z0,z1,z2,z3,y0,y1,y2,y3⟩:=CmAt.facts HK.out.rs))
    (try simp only [Exit.inBlock,Exit.then])
    refine bodyPost_ret (af1 rfl _ _ _ _ rfl (CmAt.lay HK.out.rs)) rfl ?_
    rw [HF.out]
    exact⟨_,_,rfl,HK.out.ret.1,rfl,by simp;omega,HK.out.ret.2⟩
   ·obtain⟨m,rfl,hm1,hm2,hm3⟩:=HPZ.out (by omega)
    have hm0:0<m:=by omega
    cases hed:ed with
    |true=>
     have HF:=hJ (show cmt false (s.data.toList.drop (p+2))= .fine (k - (p+2)) ln by rw [HEQ.out,HST.out,if_neg (fun h=>by cases h.1),if_neg h0,if_neg hn0,if_pos ⟨rfl,hed⟩];simp [CmO.shift])
     rw [hed] at HEN
     clear HEQ HST hm3
     subst hed
     go_upto_region 22 with (first|(go_at_call 85;refine(HNX.out _ HK.out.rd HK.out.rdy).mono ?_;rintro e w9 ⟨rfl,hb⟩;clear c0 c1 c2 c3 c4 f0 f1 f2 f3 f4 d0 d1 d2 d3 g0 g1 g2 g3 z0 z1 z2 z3 y0 y1 y2 y3;replace HK:=hJ (HK.out.bel hb);clear hb;obtain⟨c0,c1,c2,c3,c4,f0,f1,f2,f3,f4⟩:=RdAt.facts HK.out.rd;obtain⟨d0,d1,d2,d3,g0,g1,g2,g3⟩:=CmAt.facts HK.out.cm;obtain⟨z0,z1,z2,z3,y0,y1,y2,y3⟩:=CmAt.facts HK.out.rs)|(go_at_call 86;refine(HEN.out _).mono ?_;rintro e w9 ⟨rfl,hb⟩;clear c0 c1 c2 c3 c4 f0 f1 f2 f3 f4 d0 d1 d2 d3 g0 g1 g2 g3 z0 z1 z2 z3 y0 y1 y2 y3;replace HK:=hJ (HK.out.bel hb);clear hb;obtain⟨c0,c1,c2,c3,c4,f0,f1,f2,f3,f4⟩:=RdAt.facts HK.out.rd;obtain⟨d0,d1,d2,d3,g0,g1,g2,g3⟩:=CmAt.facts HK.out.cm;obtain⟨z0,z1,z2,z3,y0,y1,y2,y3⟩:=CmAt.facts HK.out.rs))
     go_upto_region 23 with fail
     have hkc:=HK.out.setCm HBL.out (d:=⟨1,⟨#[]⟩,p,(k:Int)⟩) 3 (.int .i64 ((k:Int))) rfl
     clear c0 c1 c2 c3 c4 f0 f1 f2 f3 f4 d0 d1 d2 d3 g0 g1 g2 g3 z0 z1 z2 z3 y0 y1 y2 y3
     clear HK
     generalize World.setCell _ _ _=w5 at*
     have HK:=hJ hkc
     clear hkc
     obtain⟨c0,c1,c2,c3,c4,f0,f1,f2,f3,f4⟩:=RdAt.facts HK.out.rd;obtain⟨d0,d1,d2,d3,g0,g1,g2,g3⟩:=CmAt.facts HK.out.cm;obtain⟨z0,z1,z2,z3,y0,y1,y2,y3⟩:=CmAt.facts HK.out.rs
     go_cut [113] from 105 to 114 (fun _ wx=>Cst b g r s w ⟨k,line||ln,fl,cd⟩ ⟨1,s.extract p (k),p,(k:Int)⟩ wx)
     case first=>
      have hkd:=(HK.out.setCm HBL.out (d:=⟨1,s.extract p (k),p,(k:Int)⟩) 1 (.string (s.extract p (k))) rfl).drew
      go_region
      all_goals go_wp2_with fail
      all_goals go_meet
      all_goals exact hkd
     case rest=>
      clear c0 c1 c2 c3 c4 f0 f1 f2 f3 f4 d0 d1 d2 d3 g0 g1 g2 g3 z0 z1 z2 z3 y0 y1 y2 y3
      clear HK
      have HK:=hJ hcut
      clear hcut
      obtain⟨c0,c1,c2,c3,c4,f0,f1,f2,f3,f4⟩:=RdAt.facts HK.out.rd;obtain⟨d0,d1,d2,d3,g0,g1,g2,g3⟩:=CmAt.facts HK.out.cm;obtain⟨z0,z1,z2,z3,y0,y1,y2,y3⟩:=CmAt.facts HK.out.rs
      go_wp2_with fail
      (try simp only [Exit.inBlock,Exit.then])
      refine bodyPost_ret (af1 rfl _ _ _ _ rfl (CmAt.lay HK.out.rs)) rfl ?_
      have hkn:p+2+(k - (p+2))=k:=by omega
      rw [HF.out]
      unfold as1
      simp only [hkn]
      exact⟨rfl,HK.out.ret⟩
    |false=>
     have HN:=hJ (show cmt false (s.data.toList.drop (p+2))=(cmt false (s.data.toList.drop (k+m))).shift (k+m - (p+2)) ln by rw [HEQ.out,HST.out,if_neg (fun h=>by cases h.1),if_neg h0,if_neg hn0,if_neg (fun h=>by rw [hed] at h;cases h.2),Int.toNat_natCast,HDD.out,hed,shift_shift,Bool.or_false,show k - (p+2)+m=k+m - (p+2) by omega])
     rw [hed] at HEN
     clear HEQ HST hm3
     subst hed
     have hpt:decide (0<m)=true:=decide_eq_true hm0
     have hpg2:=fun W hx hr=>HPG.out W m hx hr rfl
     rw [hpt] at hpg2
     have HPG2:=hJ hpg2
     clear hpg2 hpt
     go_wp2_with (first|(go_at_call 85;refine(HNX.out _ HK.out.rd HK.out.rdy).mono ?_;rintro e w9 ⟨rfl,hb⟩;clear c0 c1 c2 c3 c4 f0 f1 f2 f3 f4 d0 d1 d2 d3 g0 g1 g2 g3 z0 z1 z2 z3 y0 y1 y2 y3;replace HK:=hJ (HK.out.bel hb);clear hb;obtain⟨c0,c1,c2,c3,c4,f0,f1,f2,f3,f4⟩:=RdAt.facts HK.out.rd;obtain⟨d0,d1,d2,d3,g0,g1,g2,g3⟩:=CmAt.facts HK.out.cm;obtain⟨z0,z1,z2,z3,y0,y1,y2,y3⟩:=CmAt.facts HK.out.rs)|(go_at_call 86;refine(HEN.out _).mono ?_;rintro e w9 ⟨rfl,hb⟩;clear c0 c1 c2 c3 c4 f0 f1 f2 f3 f4 d0 d1 d2 d3 g0 g1 g2 g3 z0 z1 z2 z3 y0 y1 y2 y3;replace HK:=hJ (HK.out.bel hb);clear hb;obtain⟨c0,c1,c2,c3,c4,f0,f1,f2,f3,f4⟩:=RdAt.facts HK.out.rd;obtain⟨d0,d1,d2,d3,g0,g1,g2,g3⟩:=CmAt.facts HK.out.cm;obtain⟨z0,z1,z2,z3,y0,y1,y2,y3⟩:=CmAt.facts HK.out.rs)|(go_at_call 91;refine(HPG2.out _ HK.out.rd HK.out.rdy).mono ?_;rintro e w9 ⟨rfl,hx9,hb9⟩;clear c0 c1 c2 c3 c4 f0 f1 f2 f3 f4 d0 d1 d2 d3 g0 g1 g2 g3 z0 z1 z2 z3 y0 y1 y2 y3;replace HK:=hJ (HK.out.step hx9 hb9 (show k+m≤s.size by omega));clear hx9 hb9;obtain⟨c0,c1,c2,c3,c4,f0,f1,f2,f3,f4⟩:=RdAt.facts HK.out.rd;obtain⟨d0,d1,d2,d3,g0,g1,g2,g3⟩:=CmAt.facts HK.out.cm;obtain⟨z0,z1,z2,z3,y0,y1,y2,y3⟩:=CmAt.facts HK.out.rs))
     go_roundw
     case rel=>exact⟨k+m,ln,by omega,HK.out,HN.out⟩
     case measure=>rw [HK.out.rd.pos,HPOS.out];simp only;omega
theorem bg0 (b:Nat) (s:ByteArray) (x:Rd) (w:World) (hx:RdAt w b s x) (hr:af5 b w) (hs:s.size≤16777216) (hp:x.at'≤s.size) (h1:Lib.hasPrefix (s.data.toList.drop x.at') [47,47]=false) (h2:Lib.hasPrefix (s.data.toList.drop x.at') [47,42]=true):
  Calls Tryz.prog 88 #[.pointer (some ⟨b,0,none⟩)] w fun e w'=>as1 b s x.at' x.line x.fail x.code 2 w (cmt true (s.data.toList.drop (x.at'+2))) e w':=by
 obtain⟨p,line,fl,cd⟩:=x
 simp only at hp h1 h2⊢
 have hk:=ay2 hx hr hp ⟨0,⟨#[]⟩,p,0⟩
 have hbl:=hx.lt
 obtain⟨c0,c1,c2,c3,c4,f0,f1,f2,f3,f4⟩:=RdAt.facts hx
 have c0':(w.alloc (.cells (Cm.cells ⟨0,⟨#[]⟩,0,0⟩) 115)).cell? ⟨b,0,none⟩=some (.int .i64 p):=((hx.bel (al5 (Below.refl _ _) _)).cell 0)
 clear hx hr
 go_enter Tryz.func88,Tryz.ntmps88
 go_upto_region 3 with fail
 have e0:((w.alloc (.cells (Cm.cells ⟨0,⟨#[]⟩,0,0⟩) 115)).alloc (.cells (Cm.cells ⟨0,⟨#[]⟩,p,0⟩) 115))=((w.alloc (.cells #[.int .i64 0,.string ⟨#[]⟩,.int .i64 0,.int .i64 0] 115)).alloc (.cells #[.int .i64 0,.string ⟨#[]⟩,.int .i64 p,.int .i64 0] 115)):=rfl
 rw [e0] at hk
 generalize ((w.alloc (.cells #[.int .i64 0,.string ⟨#[]⟩,.int .i64 0,.int .i64 0] 115)).alloc (.cells #[.int .i64 0,.string ⟨#[]⟩,.int .i64 p,.int .i64 0] 115))=w1 at*
 clear c0 c1 c2 c3 c4 f0 f1 f2 f3 f4 e0 c0'
 have HBL:=hJ hbl
 have HK:=hJ hk
 clear hk hbl
 generalize hgg:w.heap.size+1=g at*
 clear hgg
 generalize hrr:w.heap.size=r at*
 rw [←hrr] at HBL
 clear hrr
 obtain⟨c0,c1,c2,c3,c4,f0,f1,f2,f3,f4⟩:=RdAt.facts HK.out.rd;obtain⟨d0,d1,d2,d3,g0,g1,g2,g3⟩:=CmAt.facts HK.out.cm;obtain⟨z0,z1,z2,z3,y0,y1,y2,y3⟩:=CmAt.facts HK.out.rs
 have hl2:=ad5 h2
 rw [List.length_drop,ofl] at hl2
 have hp2:p+2≤s.size:=by simp at hl2;omega
 clear hl2
 go_upto_region 6 with (go_at_call 92;refine(ae1 b s _ _ _ HK.out.rd HK.out.le).mono ?_;rintro e w9 ⟨rfl,hb⟩;clear c0 c1 c2 c3 c4 f0 f1 f2 f3 f4 d0 d1 d2 d3 g0 g1 g2 g3 z0 z1 z2 z3 y0 y1 y2 y3;replace HK:=hJ (HK.out.bel hb);clear hb;obtain⟨c0,c1,c2,c3,c4,f0,f1,f2,f3,f4⟩:=RdAt.facts HK.out.rd;obtain⟨d0,d1,d2,d3,g0,g1,g2,g3⟩:=CmAt.facts HK.out.cm;obtain⟨z0,z1,z2,z3,y0,y1,y2,y3⟩:=CmAt.facts HK.out.rs)
 have hk:=HK.out.setCm HBL.out (d:=⟨2,⟨#[]⟩,p,0⟩) 0 (.int .i64 2) rfl
 go_upto_region 9 with fail
 clear c0 c1 c2 c3 c4 f0 f1 f2 f3 f4 d0 d1 d2 d3 g0 g1 g2 g3 z0 z1 z2 z3 y0 y1 y2 y3
 clear HK
 generalize World.setCell _ _ _=w3 at*
 have HK:=hJ hk
 clear hk
 obtain⟨c0,c1,c2,c3,c4,f0,f1,f2,f3,f4⟩:=RdAt.facts HK.out.rd;obtain⟨d0,d1,d2,d3,g0,g1,g2,g3⟩:=CmAt.facts HK.out.cm;obtain⟨z0,z1,z2,z3,y0,y1,y2,y3⟩:=CmAt.facts HK.out.rs
 go_wp2_with fail
 have hk:=HK.out.setRd (y:=⟨p+2,line,fl,cd⟩) 0 (.int .i64 ((p:Int)+2)) rfl hp2
 clear c0 c1 c2 c3 c4 f0 f1 f2 f3 f4 d0 d1 d2 d3 g0 g1 g2 g3 z0 z1 z2 z3 y0 y1 y2 y3
 clear HK
 generalize World.setCell _ _ _=w4 at*
 have HK:=hJ hk
 clear hk h1 h2
 go_loopw [5,6,7] (fun _ _ _ wr=>bx3 b g r s w p line fl cd 2 true wr) (fun _ _ _ wr=>s.size - aH6 wr b)
 case atStart=>
  refine⟨p+2,false,Nat.le_refl _,by rw [Bool.or_false];exact HK.out,?_⟩
  rw [Nat.sub_self]
  cases cmt true (s.data.toList.drop (p+2))<;>simp [CmO.shift]
 case round=>
  obtain⟨k,ln,hk,hcst,heq⟩:=hrel
  have hle:=hcst.le
  simp only at hle
  have HPOS:=hJ hcst.rd.pos
  have hst:=aK7 true (s.data.toList.drop k)
  have hnx:=fun W hx hr=>af2 b s ⟨k,line||ln,fl,cd⟩ W hx hr hle
  have hpb:=fun W hx hr hn=>ar5 b s ⟨k,line||ln,fl,cd⟩ W hx hr hle hn
  have hpg:=fun W m hx hr hn=>af0 b s ⟨k,line||ln,fl,cd⟩ W m hx hr hs hle hn
  have hpgt:=fun W m hx hr hn=>af0 b s ⟨k,true,fl,cd⟩ W m hx hr hs hle hn
  have hge:=bB0 (s.data.toList.drop k)
  have hn1:=aS8 (s.data.toList.drop k)
  have hpz:=fun h=>af8 (l:=s.data.toList.drop k) h
  rw [List.length_drop,ofl] at hpz
  have hdd:=fun m:Nat=>(List.drop_drop (i:=m) (j:=k) (l:=s.data.toList))
  have hends:=fun W=>au1 (nx (s.data.toList.drop k)).1 W
  clear HK
  have HK:=hJ hcst
  clear hcst
  simp only at hnx hpb hpg hpgt
  generalize he:am4 (nx (s.data.toList.drop k)).1=ed at*
  generalize hc:(nx (s.data.toList.drop k)).1=c at*
  generalize hn:(nx (s.data.toList.drop k)).2=n at*
  clear he hc hn
  have HNX:=hJ hnx
  have HPB:=hJ hpb
  have HPG:=hJ hpg
  have HPGT:=hJ hpgt
  have HPZ:=hJ hpz
  have HEN:=hJ hends
  have HEQ:=hJ heq
  have HST:=hJ hst
  have HDD:=hJ hdd
  have HN1:=hJ hn1
  clear hnx hpb hpg hpgt hpz hends heq hst hdd hn1
  obtain⟨c0,c1,c2,c3,c4,f0,f1,f2,f3,f4⟩:=RdAt.facts HK.out.rd;obtain⟨d0,d1,d2,d3,g0,g1,g2,g3⟩:=CmAt.facts HK.out.cm;obtain⟨z0,z1,z2,z3,y0,y1,y2,y3⟩:=CmAt.facts HK.out.rs
  have his:=fun W hx=>ae1 b s ⟨k,line||ln,fl,cd⟩ [42,47] W hx hle
  simp only at his
  have HIS:=hJ his
  clear his
  cases hcl:Lib.hasPrefix (s.data.toList.drop k) [42,47] with
  |true=>
   have hk2:k+2≤s.size:=by
    have:=ad5 hcl
    rw [List.length_drop,ofl] at this
    simp at this
    omega
   have HF:=hJ (show cmt true (s.data.toList.drop (p+2))= .fine (k - (p+2)+2) ln by rw [HEQ.out,HST.out,if_pos ⟨rfl,hcl⟩];simp [CmO.shift])
   obtain rfl:=HN1.out hcl
   rw [hcl] at HIS
   clear HEQ HST hcl HN1 HPZ hge HPB HPG HPGT
   go_upto_region 13 with (first|(go_at_call 85;refine(HNX.out _ HK.out.rd HK.out.rdy).mono ?_;rintro e w9 ⟨rfl,hb⟩;clear c0 c1 c2 c3 c4 f0 f1 f2 f3 f4 d0 d1 d2 d3 g0 g1 g2 g3 z0 z1 z2 z3 y0 y1 y2 y3;replace HK:=hJ (HK.out.bel hb);clear hb;obtain⟨c0,c1,c2,c3,c4,f0,f1,f2,f3,f4⟩:=RdAt.facts HK.out.rd;obtain⟨d0,d1,d2,d3,g0,g1,g2,g3⟩:=CmAt.facts HK.out.cm;obtain⟨z0,z1,z2,z3,y0,y1,y2,y3⟩:=CmAt.facts HK.out.rs)|(go_at_call 86;refine(HEN.out _).mono ?_;rintro e w9 ⟨rfl,hb⟩;clear c0 c1 c2 c3 c4 f0 f1 f2 f3 f4 d0 d1 d2 d3 g0 g1 g2 g3 z0 z1 z2 z3 y0 y1 y2 y3;replace HK:=hJ (HK.out.bel hb);clear hb;obtain⟨c0,c1,c2,c3,c4,f0,f1,f2,f3,f4⟩:=RdAt.facts HK.out.rd;obtain⟨d0,d1,d2,d3,g0,g1,g2,g3⟩:=CmAt.facts HK.out.cm;obtain⟨z0,z1,z2,z3,y0,y1,y2,y3⟩:=CmAt.facts HK.out.rs)|(go_at_call 92;refine(HIS.out _ HK.out.rd).mono ?_;rintro e w9 ⟨rfl,hb⟩;clear c0 c1 c2 c3 c4 f0 f1 f2 f3 f4 d0 d1 d2 d3 g0 g1 g2 g3 z0 z1 z2 z3 y0 y1 y2 y3;replace HK:=hJ (HK.out.bel hb);clear hb;obtain⟨c0,c1,c2,c3,c4,f0,f1,f2,f3,f4⟩:=RdAt.facts HK.out.rd;obtain⟨d0,d1,d2,d3,g0,g1,g2,g3⟩:=CmAt.facts HK.out.cm;obtain⟨z0,z1,z2,z3,y0,y1,y2,y3⟩:=CmAt.facts HK.out.rs))
   have hkc:=HK.out.setRd (y:=⟨k+2,line||ln,fl,cd⟩) 0 (.int .i64 ((k:Int)+2)) rfl hk2
   go_upto_region 14 with fail
   clear c0 c1 c2 c3 c4 f0 f1 f2 f3 f4 d0 d1 d2 d3 g0 g1 g2 g3 z0 z1 z2 z3 y0 y1 y2 y3
   clear HK
   generalize World.setCell _ _ _=w6 at*
   have HK:=hJ hkc
   clear hkc
   obtain⟨c0,c1,c2,c3,c4,f0,f1,f2,f3,f4⟩:=RdAt.facts HK.out.rd;obtain⟨d0,d1,d2,d3,g0,g1,g2,g3⟩:=CmAt.facts HK.out.cm;obtain⟨z0,z1,z2,z3,y0,y1,y2,y3⟩:=CmAt.facts HK.out.rs
   go_upto_region 22 with fail
   go_upto_region 23 with fail
   have hkc:=HK.out.setCm HBL.out (d:=⟨2,⟨#[]⟩,p,((k:Int)+2)⟩) 3 (.int .i64 (((k:Int)+2))) rfl
   clear c0 c1 c2 c3 c4 f0 f1 f2 f3 f4 d0 d1 d2 d3 g0 g1 g2 g3 z0 z1 z2 z3 y0 y1 y2 y3
   clear HK
   generalize World.setCell _ _ _=w5 at*
   have HK:=hJ hkc
   clear hkc
   obtain⟨c0,c1,c2,c3,c4,f0,f1,f2,f3,f4⟩:=RdAt.facts HK.out.rd;obtain⟨d0,d1,d2,d3,g0,g1,g2,g3⟩:=CmAt.facts HK.out.cm;obtain⟨z0,z1,z2,z3,y0,y1,y2,y3⟩:=CmAt.facts HK.out.rs
   go_cut [113] from 105 to 114 (fun _ wx=>Cst b g r s w ⟨k+2,line||ln,fl,cd⟩ ⟨2,s.extract p (k+2),p,((k:Int)+2)⟩ wx)
   case first=>
    have hkd:=(HK.out.setCm HBL.out (d:=⟨2,s.extract p (k+2),p,((k:Int)+2)⟩) 1 (.string (s.extract p (k+2))) rfl).drew
    go_region
    all_goals go_wp2_with fail
    all_goals go_meet
    all_goals exact hkd
   case rest=>
    clear c0 c1 c2 c3 c4 f0 f1 f2 f3 f4 d0 d1 d2 d3 g0 g1 g2 g3 z0 z1 z2 z3 y0 y1 y2 y3
    clear HK
    have HK:=hJ hcut
    clear hcut
    obtain⟨c0,c1,c2,c3,c4,f0,f1,f2,f3,f4⟩:=RdAt.facts HK.out.rd;obtain⟨d0,d1,d2,d3,g0,g1,g2,g3⟩:=CmAt.facts HK.out.cm;obtain⟨z0,z1,z2,z3,y0,y1,y2,y3⟩:=CmAt.facts HK.out.rs
    go_wp2_with fail
    (try simp only [Exit.inBlock,Exit.then])
    refine bodyPost_ret (af1 rfl _ _ _ _ rfl (CmAt.lay HK.out.rs)) rfl ?_
    have hkn:p+2+(k - (p+2)+2)=k+2:=by omega
    rw [HF.out]
    unfold as1
    simp only [hkn]
    exact⟨rfl,HK.out.ret⟩
  |false=>
   have hcl': ¬(true=true∧Lib.hasPrefix (s.data.toList.drop k) [42,47]=true):=fun h=>by rw [hcl] at h;cases h.2
   rw [hcl] at HIS
   clear HN1
   by_cases h0:n=0
   ·have HF:=hJ (show cmt true (s.data.toList.drop (p+2))= .bad (k - (p+2)) 507 by rw [HEQ.out,HST.out,if_neg hcl',if_pos h0,if_pos rfl];simp [CmO.shift])
    clear HEQ HST hcl hcl'
    go_upto_region 16 with (first|(go_at_call 85;refine(HNX.out _ HK.out.rd HK.out.rdy).mono ?_;rintro e w9 ⟨rfl,hb⟩;clear c0 c1 c2 c3 c4 f0 f1 f2 f3 f4 d0 d1 d2 d3 g0 g1 g2 g3 z0 z1 z2 z3 y0 y1 y2 y3;replace HK:=hJ (HK.out.bel hb);clear hb;obtain⟨c0,c1,c2,c3,c4,f0,f1,f2,f3,f4⟩:=RdAt.facts HK.out.rd;obtain⟨d0,d1,d2,d3,g0,g1,g2,g3⟩:=CmAt.facts HK.out.cm;obtain⟨z0,z1,z2,z3,y0,y1,y2,y3⟩:=CmAt.facts HK.out.rs)|(go_at_call 86;refine(HEN.out _).mono ?_;rintro e w9 ⟨rfl,hb⟩;clear c0 c1 c2 c3 c4 f0 f1 f2 f3 f4 d0 d1 d2 d3 g0 g1 g2 g3 z0 z1 z2 z3 y0 y1 y2 y3;replace HK:=hJ (HK.out.bel hb);clear hb;obtain⟨c0,c1,c2,c3,c4,f0,f1,f2,f3,f4⟩:=RdAt.facts HK.out.rd;obtain⟨d0,d1,d2,d3,g0,g1,g2,g3⟩:=CmAt.facts HK.out.cm;obtain⟨z0,z1,z2,z3,y0,y1,y2,y3⟩:=CmAt.facts HK.out.rs)|(go_at_call 92;refine(HIS.out _ HK.out.rd).mono ?_;rintro e w9 ⟨rfl,hb⟩;clear c0 c1 c2 c3 c4 f0 f1 f2 f3 f4 d0 d1 d2 d3 g0 g1 g2 g3 z0 z1 z2 z3 y0 y1 y2 y3;replace HK:=hJ (HK.out.bel hb);clear hb;obtain⟨c0,c1,c2,c3,c4,f0,f1,f2,f3,f4⟩:=RdAt.facts HK.out.rd;obtain⟨d0,d1,d2,d3,g0,g1,g2,g3⟩:=CmAt.facts HK.out.cm;obtain⟨z0,z1,z2,z3,y0,y1,y2,y3⟩:=CmAt.facts HK.out.rs))
    go_cut [3] from 80 to 84 (fun v wx=>v= .bool false∧(∃c:Cm,CmAt wx r c)∧RdAt wx b s ⟨k,line||ln,p,507⟩∧But b w wx)
    case first=>
     have HKD:=hJ HK.out.drew
     clear HF HPB HPG HPGT HNX HEN HIS
     go_region_with (go_at_call 94;refine(af9 b s _ _ _ _ HKD.out.rd).mono ?_;rintro e w9 ⟨rfl,hx9,hb9⟩;clear c0 c1 c2 c3 c4 f0 f1 f2 f3 f4 d0 d1 d2 d3 g0 g1 g2 g3 z0 z1 z2 z3 y0 y1 y2 y3;replace HKD:=hJ (HKD.out.step hx9 hb9 hle);clear hx9 hb9;obtain⟨z0,z1,z2,z3,y0,y1,y2,y3⟩:=CmAt.facts HKD.out.rs;obtain⟨d0,d1,d2,d3,g0,g1,g2,g3⟩:=CmAt.facts HKD.out.cm)
     all_goals go_wp2_with fail
     all_goals go_meet
     all_goals exact⟨rfl,⟨_,CmAt.lay HKD.out.rs⟩,HKD.out.ret⟩
    case rest=>
     obtain⟨rfl,⟨cc,hcc⟩,hx9,hb9⟩:=hcut
     go_wp2_with fail
     (try simp only [Exit.inBlock,Exit.then])
     refine bodyPost_ret (af1 rfl _ _ _ _ rfl hcc) rfl ?_
     rw [HF.out]
     exact⟨_,_,rfl,hx9,rfl,rfl,hb9⟩
   ·by_cases hn0:n<0
    ·have HF:=hJ (show cmt true (s.data.toList.drop (p+2))= .bad (k - (p+2)) 502 by rw [HEQ.out,HST.out,if_neg hcl',if_neg h0,if_pos hn0];simp [CmO.shift])
     clear HEQ HST hcl hcl'
     go_wp2_with (first|(go_at_call 85;refine(HNX.out _ HK.out.rd HK.out.rdy).mono ?_;rintro e w9 ⟨rfl,hb⟩;clear c0 c1 c2 c3 c4 f0 f1 f2 f3 f4 d0 d1 d2 d3 g0 g1 g2 g3 z0 z1 z2 z3 y0 y1 y2 y3;replace HK:=hJ (HK.out.bel hb);clear hb;obtain⟨c0,c1,c2,c3,c4,f0,f1,f2,f3,f4⟩:=RdAt.facts HK.out.rd;obtain⟨d0,d1,d2,d3,g0,g1,g2,g3⟩:=CmAt.facts HK.out.cm;obtain⟨z0,z1,z2,z3,y0,y1,y2,y3⟩:=CmAt.facts HK.out.rs)|(go_at_call 86;refine(HEN.out _).mono ?_;rintro e w9 ⟨rfl,hb⟩;clear c0 c1 c2 c3 c4 f0 f1 f2 f3 f4 d0 d1 d2 d3 g0 g1 g2 g3 z0 z1 z2 z3 y0 y1 y2 y3;replace HK:=hJ (HK.out.bel hb);clear hb;obtain⟨c0,c1,c2,c3,c4,f0,f1,f2,f3,f4⟩:=RdAt.facts HK.out.rd;obtain⟨d0,d1,d2,d3,g0,g1,g2,g3⟩:=CmAt.facts HK.out.cm;obtain⟨z0,z1,z2,z3,y0,y1,y2,y3⟩:=CmAt.facts HK.out.rs)|(go_at_call 92;refine(HIS.out _ HK.out.rd).mono ?_;rintro e w9 ⟨rfl,hb⟩;clear c0 c1 c2 c3 c4 f0 f1 f2 f3 f4 d0 d1 d2 d3 g0 g1 g2 g3 z0 z1 z2 z3 y0 y1 y2 y3;replace HK:=hJ (HK.out.bel hb);clear hb;obtain⟨c0,c1,c2,c3,c4,f0,f1,f2,f3,f4⟩:=RdAt.facts HK.out.rd;obtain⟨d0,d1,d2,d3,g0,g1,g2,g3⟩:=CmAt.facts HK.out.cm;obtain⟨z0,z1,z2,z3,y0,y1,y2,y3⟩:=CmAt.facts HK.out.rs)|(go_at_call 91;refine(HPB.out _ HK.out.rd HK.out.rdy hn0).mono ?_;rintro e w9 ⟨rfl,hx9,hb9⟩;clear c0 c1 c2 c3 c4 f0 f1 f2 f3 f4 d0 d1 d2 d3 g0 g1 g2 g3 z0 z1 z2 z3 y0 y1 y2 y3;replace HK:=hJ (HK.out.step hx9 hb9 hle);clear hx9 hb9;obtain⟨c0,c1,c2,c3,c4,f0,f1,f2,f3,f4⟩:=RdAt.facts HK.out.rd;obtain⟨d0,d1,d2,d3,g0,g1,g2,g3⟩:=CmAt.facts HK.out.cm;obtain⟨z0,z1,z2,z3,y0,y1,y2,y3⟩:=CmAt.facts HK.out.rs))
     (try simp only [Exit.inBlock,Exit.then])
     refine bodyPost_ret (af1 rfl _ _ _ _ rfl (CmAt.lay HK.out.rs)) rfl ?_
     rw [HF.out]
     exact⟨_,_,rfl,HK.out.ret.1,rfl,by simp;omega,HK.out.ret.2⟩
    ·obtain⟨m,rfl,hm1,hm2,hm3⟩:=HPZ.out (by omega)
     have hm0:0<m:=by omega
     have hpt:decide (0<m)=true:=decide_eq_true hm0
     have HN:=hJ (show cmt true (s.data.toList.drop (p+2))=(cmt true (s.data.toList.drop (k+m))).shift (k+m - (p+2)) (ln||ed) by rw [HEQ.out,HST.out,if_neg hcl',if_neg h0,if_neg hn0,if_neg (fun h=>by cases h.1),Int.toNat_natCast,HDD.out,shift_shift,show k - (p+2)+m=k+m - (p+2) by omega])
     clear HEQ HST hcl hcl' hm3
     cases hed:ed with
     |true=>
      rw [hed] at HEN HN
      subst hed
      have hpg2:=fun W hx hr=>HPGT.out W m hx hr rfl
      rw [hpt] at hpg2
      have HPG2:=hJ hpg2
      clear hpg2 hpt
      go_upto_region 20 with (first|(go_at_call 85;refine(HNX.out _ HK.out.rd HK.out.rdy).mono ?_;rintro e w9 ⟨rfl,hb⟩;clear c0 c1 c2 c3 c4 f0 f1 f2 f3 f4 d0 d1 d2 d3 g0 g1 g2 g3 z0 z1 z2 z3 y0 y1 y2 y3;replace HK:=hJ (HK.out.bel hb);clear hb;obtain⟨c0,c1,c2,c3,c4,f0,f1,f2,f3,f4⟩:=RdAt.facts HK.out.rd;obtain⟨d0,d1,d2,d3,g0,g1,g2,g3⟩:=CmAt.facts HK.out.cm;obtain⟨z0,z1,z2,z3,y0,y1,y2,y3⟩:=CmAt.facts HK.out.rs)|(go_at_call 86;refine(HEN.out _).mono ?_;rintro e w9 ⟨rfl,hb⟩;clear c0 c1 c2 c3 c4 f0 f1 f2 f3 f4 d0 d1 d2 d3 g0 g1 g2 g3 z0 z1 z2 z3 y0 y1 y2 y3;replace HK:=hJ (HK.out.bel hb);clear hb;obtain⟨c0,c1,c2,c3,c4,f0,f1,f2,f3,f4⟩:=RdAt.facts HK.out.rd;obtain⟨d0,d1,d2,d3,g0,g1,g2,g3⟩:=CmAt.facts HK.out.cm;obtain⟨z0,z1,z2,z3,y0,y1,y2,y3⟩:=CmAt.facts HK.out.rs)|(go_at_call 92;refine(HIS.out _ HK.out.rd).mono ?_;rintro e w9 ⟨rfl,hb⟩;clear c0 c1 c2 c3 c4 f0 f1 f2 f3 f4 d0 d1 d2 d3 g0 g1 g2 g3 z0 z1 z2 z3 y0 y1 y2 y3;replace HK:=hJ (HK.out.bel hb);clear hb;obtain⟨c0,c1,c2,c3,c4,f0,f1,f2,f3,f4⟩:=RdAt.facts HK.out.rd;obtain⟨d0,d1,d2,d3,g0,g1,g2,g3⟩:=CmAt.facts HK.out.cm;obtain⟨z0,z1,z2,z3,y0,y1,y2,y3⟩:=CmAt.facts HK.out.rs))
      have hkc:=HK.out.setRd (y:=⟨k,true,fl,cd⟩) 2 (.bool true) rfl hle
      go_upto_region 21 with fail
      clear c0 c1 c2 c3 c4 f0 f1 f2 f3 f4 d0 d1 d2 d3 g0 g1 g2 g3 z0 z1 z2 z3 y0 y1 y2 y3
      clear HK
      generalize World.setCell _ _ _=w6 at*
      have HK:=hJ hkc
      clear hkc
      obtain⟨c0,c1,c2,c3,c4,f0,f1,f2,f3,f4⟩:=RdAt.facts HK.out.rd;obtain⟨d0,d1,d2,d3,g0,g1,g2,g3⟩:=CmAt.facts HK.out.cm;obtain⟨z0,z1,z2,z3,y0,y1,y2,y3⟩:=CmAt.facts HK.out.rs
      go_wp2_with (go_at_call 91;refine(HPG2.out _ HK.out.rd HK.out.rdy).mono ?_;rintro e w9 ⟨rfl,hx9,hb9⟩;clear c0 c1 c2 c3 c4 f0 f1 f2 f3 f4 d0 d1 d2 d3 g0 g1 g2 g3 z0 z1 z2 z3 y0 y1 y2 y3;replace HK:=hJ (HK.out.step hx9 hb9 (show k+m≤s.size by omega));clear hx9 hb9;obtain⟨c0,c1,c2,c3,c4,f0,f1,f2,f3,f4⟩:=RdAt.facts HK.out.rd;obtain⟨d0,d1,d2,d3,g0,g1,g2,g3⟩:=CmAt.facts HK.out.cm;obtain⟨z0,z1,z2,z3,y0,y1,y2,y3⟩:=CmAt.facts HK.out.rs)
      go_roundw
      case rel=>exact⟨k+m,ln||true,by omega,by rw [Bool.or_true,Bool.or_true];exact HK.out,HN.out⟩
      case measure=>rw [HK.out.rd.pos,HPOS.out];simp only;omega
     |false=>
      rw [hed] at HEN HN
      subst hed
      have hpg2:=fun W hx hr=>HPG.out W m hx hr rfl
      rw [hpt] at hpg2
      have HPG2:=hJ hpg2
      clear hpg2 hpt
      go_wp2_with (first|(go_at_call 85;refine(HNX.out _ HK.out.rd HK.out.rdy).mono ?_;rintro e w9 ⟨rfl,hb⟩;clear c0 c1 c2 c3 c4 f0 f1 f2 f3 f4 d0 d1 d2 d3 g0 g1 g2 g3 z0 z1 z2 z3 y0 y1 y2 y3;replace HK:=hJ (HK.out.bel hb);clear hb;obtain⟨c0,c1,c2,c3,c4,f0,f1,f2,f3,f4⟩:=RdAt.facts HK.out.rd;obtain⟨d0,d1,d2,d3,g0,g1,g2,g3⟩:=CmAt.facts HK.out.cm;obtain⟨z0,z1,z2,z3,y0,y1,y2,y3⟩:=CmAt.facts HK.out.rs)|(go_at_call 86;refine(HEN.out _).mono ?_;rintro e w9 ⟨rfl,hb⟩;clear c0 c1 c2 c3 c4 f0 f1 f2 f3 f4 d0 d1 d2 d3 g0 g1 g2 g3 z0 z1 z2 z3 y0 y1 y2 y3;replace HK:=hJ (HK.out.bel hb);clear hb;obtain⟨c0,c1,c2,c3,c4,f0,f1,f2,f3,f4⟩:=RdAt.facts HK.out.rd;obtain⟨d0,d1,d2,d3,g0,g1,g2,g3⟩:=CmAt.facts HK.out.cm;obtain⟨z0,z1,z2,z3,y0,y1,y2,y3⟩:=CmAt.facts HK.out.rs)|(go_at_call 92;refine(HIS.out _ HK.out.rd).mono ?_;rintro e w9 ⟨rfl,hb⟩;clear c0 c1 c2 c3 c4 f0 f1 f2 f3 f4 d0 d1 d2 d3 g0 g1 g2 g3 z0 z1 z2 z3 y0 y1 y2 y3;replace HK:=hJ (HK.out.bel hb);clear hb;obtain⟨c0,c1,c2,c3,c4,f0,f1,f2,f3,f4⟩:=RdAt.facts HK.out.rd;obtain⟨d0,d1,d2,d3,g0,g1,g2,g3⟩:=CmAt.facts HK.out.cm;obtain⟨z0,z1,z2,z3,y0,y1,y2,y3⟩:=CmAt.facts HK.out.rs)|(go_at_call 91;refine(HPG2.out _ HK.out.rd HK.out.rdy).mono ?_;rintro e w9 ⟨rfl,hx9,hb9⟩;clear c0 c1 c2 c3 c4 f0 f1 f2 f3 f4 d0 d1 d2 d3 g0 g1 g2 g3 z0 z1 z2 z3 y0 y1 y2 y3;replace HK:=hJ (HK.out.step hx9 hb9 (show k+m≤s.size by omega));clear hx9 hb9;obtain⟨c0,c1,c2,c3,c4,f0,f1,f2,f3,f4⟩:=RdAt.facts HK.out.rd;obtain⟨d0,d1,d2,d3,g0,g1,g2,g3⟩:=CmAt.facts HK.out.cm;obtain⟨z0,z1,z2,z3,y0,y1,y2,y3⟩:=CmAt.facts HK.out.rs))
      go_roundw
      case rel=>exact⟨k+m,ln||false,by omega,by rw [Bool.or_false];exact HK.out,HN.out⟩
      case measure=>rw [HK.out.rd.pos,HPOS.out];simp only;omega
theorem bg1 (b:Nat) (s:ByteArray) (x:Rd) (w:World) (hx:RdAt w b s x) (hr:af5 b w) (hs:s.size≤16777216) (hp:x.at'≤s.size) (h1:Lib.hasPrefix (s.data.toList.drop x.at') [47,47]=false) (h2:Lib.hasPrefix (s.data.toList.drop x.at') [47,42]=false) (h3:x.at'=0) (h4:Lib.hasPrefix (s.data.toList.drop x.at') [35,33]=true):
  Calls Tryz.prog 88 #[.pointer (some ⟨b,0,none⟩)] w fun e w'=>as1 b s x.at' x.line x.fail x.code 3 w (cmt false (s.data.toList.drop (x.at'+2))) e w':=by
 obtain⟨p,line,fl,cd⟩:=x
 simp only at hp h1 h2 h3 h4⊢
 have H3:=hJ h3
 clear h3
 have hk:=ay2 hx hr hp ⟨0,⟨#[]⟩,p,0⟩
 have hbl:=hx.lt
 obtain⟨c0,c1,c2,c3,c4,f0,f1,f2,f3,f4⟩:=RdAt.facts hx
 have c0':(w.alloc (.cells (Cm.cells ⟨0,⟨#[]⟩,0,0⟩) 115)).cell? ⟨b,0,none⟩=some (.int .i64 p):=((hx.bel (al5 (Below.refl _ _) _)).cell 0)
 clear hx hr
 go_enter Tryz.func88,Tryz.ntmps88
 go_upto_region 3 with fail
 have e0:((w.alloc (.cells (Cm.cells ⟨0,⟨#[]⟩,0,0⟩) 115)).alloc (.cells (Cm.cells ⟨0,⟨#[]⟩,p,0⟩) 115))=((w.alloc (.cells #[.int .i64 0,.string ⟨#[]⟩,.int .i64 0,.int .i64 0] 115)).alloc (.cells #[.int .i64 0,.string ⟨#[]⟩,.int .i64 p,.int .i64 0] 115)):=rfl
 rw [e0] at hk
 generalize ((w.alloc (.cells #[.int .i64 0,.string ⟨#[]⟩,.int .i64 0,.int .i64 0] 115)).alloc (.cells #[.int .i64 0,.string ⟨#[]⟩,.int .i64 p,.int .i64 0] 115))=w1 at*
 clear c0 c1 c2 c3 c4 f0 f1 f2 f3 f4 e0 c0'
 have HBL:=hJ hbl
 have HK:=hJ hk
 clear hk hbl
 generalize hgg:w.heap.size+1=g at*
 clear hgg
 generalize hrr:w.heap.size=r at*
 rw [←hrr] at HBL
 clear hrr
 obtain⟨c0,c1,c2,c3,c4,f0,f1,f2,f3,f4⟩:=RdAt.facts HK.out.rd;obtain⟨d0,d1,d2,d3,g0,g1,g2,g3⟩:=CmAt.facts HK.out.cm;obtain⟨z0,z1,z2,z3,y0,y1,y2,y3⟩:=CmAt.facts HK.out.rs
 have hpz:((p:Int)==0)=true:=by rw [beq_iff_eq];have:=H3.out;omega
 clear H3
 have hl2:=ad5 h4
 rw [List.length_drop,ofl] at hl2
 have hp2:p+2≤s.size:=by simp at hl2;omega
 clear hl2
 go_upto_region 8 with (go_at_call 92;refine(ae1 b s _ _ _ HK.out.rd HK.out.le).mono ?_;rintro e w9 ⟨rfl,hb⟩;clear c0 c1 c2 c3 c4 f0 f1 f2 f3 f4 d0 d1 d2 d3 g0 g1 g2 g3 z0 z1 z2 z3 y0 y1 y2 y3;replace HK:=hJ (HK.out.bel hb);clear hb;obtain⟨c0,c1,c2,c3,c4,f0,f1,f2,f3,f4⟩:=RdAt.facts HK.out.rd;obtain⟨d0,d1,d2,d3,g0,g1,g2,g3⟩:=CmAt.facts HK.out.cm;obtain⟨z0,z1,z2,z3,y0,y1,y2,y3⟩:=CmAt.facts HK.out.rs)
 have hk:=HK.out.setCm HBL.out (d:=⟨3,⟨#[]⟩,p,0⟩) 0 (.int .i64 3) rfl
 go_upto_region 9 with fail
 clear c0 c1 c2 c3 c4 f0 f1 f2 f3 f4 d0 d1 d2 d3 g0 g1 g2 g3 z0 z1 z2 z3 y0 y1 y2 y3
 clear HK
 generalize World.setCell _ _ _=w3 at*
 have HK:=hJ hk
 clear hk
 obtain⟨c0,c1,c2,c3,c4,f0,f1,f2,f3,f4⟩:=RdAt.facts HK.out.rd;obtain⟨d0,d1,d2,d3,g0,g1,g2,g3⟩:=CmAt.facts HK.out.cm;obtain⟨z0,z1,z2,z3,y0,y1,y2,y3⟩:=CmAt.facts HK.out.rs
 go_wp2_with fail
 have hk:=HK.out.setRd (y:=⟨p+2,line,fl,cd⟩) 0 (.int .i64 ((p:Int)+2)) rfl hp2
 clear c0 c1 c2 c3 c4 f0 f1 f2 f3 f4 d0 d1 d2 d3 g0 g1 g2 g3 z0 z1 z2 z3 y0 y1 y2 y3
 clear HK
 generalize World.setCell _ _ _=w4 at*
 have HK:=hJ hk
 clear hk h1 h2 h4
 go_loopw [5,6,7] (fun _ _ _ wr=>bx3 b g r s w p line fl cd 3 false wr) (fun _ _ _ wr=>s.size - aH6 wr b)
 case atStart=>
  refine⟨p+2,false,Nat.le_refl _,by rw [Bool.or_false];exact HK.out,?_⟩
  rw [Nat.sub_self]
  cases cmt false (s.data.toList.drop (p+2))<;>simp [CmO.shift]
 case round=>
  obtain⟨k,ln,hk,hcst,heq⟩:=hrel
  have hle:=hcst.le
  simp only at hle
  have HPOS:=hJ hcst.rd.pos
  have hst:=aK7 false (s.data.toList.drop k)
  have hnx:=fun W hx hr=>af2 b s ⟨k,line||ln,fl,cd⟩ W hx hr hle
  have hpb:=fun W hx hr hn=>ar5 b s ⟨k,line||ln,fl,cd⟩ W hx hr hle hn
  have hpg:=fun W m hx hr hn=>af0 b s ⟨k,line||ln,fl,cd⟩ W m hx hr hs hle hn
  have hpgt:=fun W m hx hr hn=>af0 b s ⟨k,true,fl,cd⟩ W m hx hr hs hle hn
  have hge:=bB0 (s.data.toList.drop k)
  have hn1:=aS8 (s.data.toList.drop k)
  have hpz:=fun h=>af8 (l:=s.data.toList.drop k) h
  rw [List.length_drop,ofl] at hpz
  have hdd:=fun m:Nat=>(List.drop_drop (i:=m) (j:=k) (l:=s.data.toList))
  have hends:=fun W=>au1 (nx (s.data.toList.drop k)).1 W
  clear HK
  have HK:=hJ hcst
  clear hcst
  simp only at hnx hpb hpg hpgt
  generalize he:am4 (nx (s.data.toList.drop k)).1=ed at*
  generalize hc:(nx (s.data.toList.drop k)).1=c at*
  generalize hn:(nx (s.data.toList.drop k)).2=n at*
  clear he hc hn
  have HNX:=hJ hnx
  have HPB:=hJ hpb
  have HPG:=hJ hpg
  have HPGT:=hJ hpgt
  have HPZ:=hJ hpz
  have HEN:=hJ hends
  have HEQ:=hJ heq
  have HST:=hJ hst
  have HDD:=hJ hdd
  have HN1:=hJ hn1
  clear hnx hpb hpg hpgt hpz hends heq hst hdd hn1
  obtain⟨c0,c1,c2,c3,c4,f0,f1,f2,f3,f4⟩:=RdAt.facts HK.out.rd;obtain⟨d0,d1,d2,d3,g0,g1,g2,g3⟩:=CmAt.facts HK.out.cm;obtain⟨z0,z1,z2,z3,y0,y1,y2,y3⟩:=CmAt.facts HK.out.rs
  by_cases h0:n=0
  ·have HF:=hJ (show cmt false (s.data.toList.drop (p+2))= .fine (k - (p+2)) ln by rw [HEQ.out,HST.out,if_neg (fun h=>by cases h.1),if_pos h0,if_neg (by decide)];simp [CmO.shift])
   clear HEQ HST
   go_upto_region 22 with (go_at_call 85;refine(HNX.out _ HK.out.rd HK.out.rdy).mono ?_;rintro e w9 ⟨rfl,hb⟩;clear c0 c1 c2 c3 c4 f0 f1 f2 f3 f4 d0 d1 d2 d3 g0 g1 g2 g3 z0 z1 z2 z3 y0 y1 y2 y3;replace HK:=hJ (HK.out.bel hb);clear hb;obtain⟨c0,c1,c2,c3,c4,f0,f1,f2,f3,f4⟩:=RdAt.facts HK.out.rd;obtain⟨d0,d1,d2,d3,g0,g1,g2,g3⟩:=CmAt.facts HK.out.cm;obtain⟨z0,z1,z2,z3,y0,y1,y2,y3⟩:=CmAt.facts HK.out.rs)
   go_upto_region 23 with fail
   have hkc:=HK.out.setCm HBL.out (d:=⟨3,⟨#[]⟩,p,(k:Int)⟩) 3 (.int .i64 ((k:Int))) rfl
   clear c0 c1 c2 c3 c4 f0 f1 f2 f3 f4 d0 d1 d2 d3 g0 g1 g2 g3 z0 z1 z2 z3 y0 y1 y2 y3
   clear HK
   generalize World.setCell _ _ _=w5 at*
   have HK:=hJ hkc
   clear hkc
   obtain⟨c0,c1,c2,c3,c4,f0,f1,f2,f3,f4⟩:=RdAt.facts HK.out.rd;obtain⟨d0,d1,d2,d3,g0,g1,g2,g3⟩:=CmAt.facts HK.out.cm;obtain⟨z0,z1,z2,z3,y0,y1,y2,y3⟩:=CmAt.facts HK.out.rs
   go_cut [113] from 105 to 114 (fun _ wx=>Cst b g r s w ⟨k,line||ln,fl,cd⟩ ⟨3,s.extract p (k),p,(k:Int)⟩ wx)
   case first=>
    have hkd:=(HK.out.setCm HBL.out (d:=⟨3,s.extract p (k),p,(k:Int)⟩) 1 (.string (s.extract p (k))) rfl).drew
    go_region
    all_goals go_wp2_with fail
    all_goals go_meet
    all_goals exact hkd
   case rest=>
    clear c0 c1 c2 c3 c4 f0 f1 f2 f3 f4 d0 d1 d2 d3 g0 g1 g2 g3 z0 z1 z2 z3 y0 y1 y2 y3
    clear HK
    have HK:=hJ hcut
    clear hcut
    obtain⟨c0,c1,c2,c3,c4,f0,f1,f2,f3,f4⟩:=RdAt.facts HK.out.rd;obtain⟨d0,d1,d2,d3,g0,g1,g2,g3⟩:=CmAt.facts HK.out.cm;obtain⟨z0,z1,z2,z3,y0,y1,y2,y3⟩:=CmAt.facts HK.out.rs
    go_wp2_with fail
    (try simp only [Exit.inBlock,Exit.then])
    refine bodyPost_ret (af1 rfl _ _ _ _ rfl (CmAt.lay HK.out.rs)) rfl ?_
    have hkn:p+2+(k - (p+2))=k:=by omega
    rw [HF.out]
    unfold as1
    simp only [hkn]
    exact⟨rfl,HK.out.ret⟩
  ·by_cases hn0:n<0
   ·have HF:=hJ (show cmt false (s.data.toList.drop (p+2))= .bad (k - (p+2)) 502 by rw [HEQ.out,HST.out,if_neg (fun h=>by cases h.1),if_neg h0,if_pos hn0];simp [CmO.shift])
    clear HEQ HST
    go_wp2_with (first|(go_at_call 85;refine(HNX.out _ HK.out.rd HK.out.rdy).mono ?_;rintro e w9 ⟨rfl,hb⟩;clear c0 c1 c2 c3 c4 f0 f1 f2 f3 f4 d0 d1 d2 d3 g0 g1 g2 g3 z0 z1 z2 z3 y0 y1 y2 y3;replace HK:=hJ (HK.out.bel hb);clear hb;obtain⟨c0,c1,c2,c3,c4,f0,f1,f2,f3,f4⟩:=RdAt.facts HK.out.rd;obtain⟨d0,d1,d2,d3,g0,g1,g2,g3⟩:=CmAt.facts HK.out.cm;obtain⟨z0,z1,z2,z3,y0,y1,y2,y3⟩:=CmAt.facts HK.out.rs)|(go_at_call 91;refine(HPB.out _ HK.out.rd HK.out.rdy hn0).mono ?_;rintro e w9 ⟨rfl,hx9,hb9⟩;clear c0 c1 c2 c3 c4 f0 f1 f2 f3 f4 d0 d1 d2 d3 g0 g1 g2 g3 z0 z1 z2 z3 y0 y1 y2 y3;replace HK:=hJ (HK.out.step hx9 hb9 hle);clear hx9 hb9;obtain⟨c0,c1,c2,c3,c4,f0,f1,f2,f3,f4⟩:=RdAt.facts HK.out.rd;obtain⟨d0,d1,d2,d3,g0,g1,g2,g3⟩:=CmAt.facts HK.out.cm;obtain⟨z0,z1,z2,z3,y0,y1,y2,y3⟩:=CmAt.facts HK.out.rs))
    (try simp only [Exit.inBlock,Exit.then])
    refine bodyPost_ret (af1 rfl _ _ _ _ rfl (CmAt.lay HK.out.rs)) rfl ?_
    rw [HF.out]
    exact⟨_,_,rfl,HK.out.ret.1,rfl,by simp;omega,HK.out.ret.2⟩
   ·obtain⟨m,rfl,hm1,hm2,hm3⟩:=HPZ.out (by omega)
    have hm0:0<m:=by omega
    cases hed:ed with
    |true=>
     have HF:=hJ (show cmt false (s.data.toList.drop (p+2))= .fine (k - (p+2)) ln by rw [HEQ.out,HST.out,if_neg (fun h=>by cases h.1),if_neg h0,if_neg hn0,if_pos ⟨rfl,hed⟩];simp [CmO.shift])
     rw [hed] at HEN
     clear HEQ HST hm3
     subst hed
     go_upto_region 22 with (first|(go_at_call 85;refine(HNX.out _ HK.out.rd HK.out.rdy).mono ?_;rintro e w9 ⟨rfl,hb⟩;clear c0 c1 c2 c3 c4 f0 f1 f2 f3 f4 d0 d1 d2 d3 g0 g1 g2 g3 z0 z1 z2 z3 y0 y1 y2 y3;replace HK:=hJ (HK.out.bel hb);clear hb;obtain⟨c0,c1,c2,c3,c4,f0,f1,f2,f3,f4⟩:=RdAt.facts HK.out.rd;obtain⟨d0,d1,d2,d3,g0,g1,g2,g3⟩:=CmAt.facts HK.out.cm;obtain⟨z0,z1,z2,z3,y0,y1,y2,y3⟩:=CmAt.facts HK.out.rs)|(go_at_call 86;refine(HEN.out _).mono ?_;rintro e w9 ⟨rfl,hb⟩;clear c0 c1 c2 c3 c4 f0 f1 f2 f3 f4 d0 d1 d2 d3 g0 g1 g2 g3 z0 z1 z2 z3 y0 y1 y2 y3;replace HK:=hJ (HK.out.bel hb);clear hb;obtain⟨c0,c1,c2,c3,c4,f0,f1,f2,f3,f4⟩:=RdAt.facts HK.out.rd;obtain⟨d0,d1,d2,d3,g0,g1,g2,g3⟩:=CmAt.facts HK.out.cm;obtain⟨z0,z1,z2,z3,y0,y1,y2,y3⟩:=CmAt.facts HK.out.rs))
     go_upto_region 23 with fail
     have hkc:=HK.out.setCm HBL.out (d:=⟨3,⟨#[]⟩,p,(k:Int)⟩) 3 (.int .i64 ((k:Int))) rfl
     clear c0 c1 c2 c3 c4 f0 f1 f2 f3 f4 d0 d1 d2 d3 g0 g1 g2 g3 z0 z1 z2 z3 y0 y1 y2 y3
     clear HK
     generalize World.setCell _ _ _=w5 at*
     have HK:=hJ hkc
     clear hkc
     obtain⟨c0,c1,c2,c3,c4,f0,f1,f2,f3,f4⟩:=RdAt.facts HK.out.rd;obtain⟨d0,d1,d2,d3,g0,g1,g2,g3⟩:=CmAt.facts HK.out.cm;obtain⟨z0,z1,z2,z3,y0,y1,y2,y3⟩:=CmAt.facts HK.out.rs
     go_cut [113] from 105 to 114 (fun _ wx=>Cst b g r s w ⟨k,line||ln,fl,cd⟩ ⟨3,s.extract p (k),p,(k:Int)⟩ wx)
     case first=>
      have hkd:=(HK.out.setCm HBL.out (d:=⟨3,s.extract p (k),p,(k:Int)⟩) 1 (.string (s.extract p (k))) rfl).drew
      go_region
      all_goals go_wp2_with fail
      all_goals go_meet
      all_goals exact hkd
     case rest=>
      clear c0 c1 c2 c3 c4 f0 f1 f2 f3 f4 d0 d1 d2 d3 g0 g1 g2 g3 z0 z1 z2 z3 y0 y1 y2 y3
      clear HK
      have HK:=hJ hcut
      clear hcut
      obtain⟨c0,c1,c2,c3,c4,f0,f1,f2,f3,f4⟩:=RdAt.facts HK.out.rd;obtain⟨d0,d1,d2,d3,g0,g1,g2,g3⟩:=CmAt.facts HK.out.cm;obtain⟨z0,z1,z2,z3,y0,y1,y2,y3⟩:=CmAt.facts HK.out.rs
      go_wp2_with fail
      (try simp only [Exit.inBlock,Exit.then])
      refine bodyPost_ret (af1 rfl _ _ _ _ rfl (CmAt.lay HK.out.rs)) rfl ?_
      have hkn:p+2+(k - (p+2))=k:=by omega
      rw [HF.out]
      unfold as1
      simp only [hkn]
      exact⟨rfl,HK.out.ret⟩
    |false=>
     have HN:=hJ (show cmt false (s.data.toList.drop (p+2))=(cmt false (s.data.toList.drop (k+m))).shift (k+m - (p+2)) ln by rw [HEQ.out,HST.out,if_neg (fun h=>by cases h.1),if_neg h0,if_neg hn0,if_neg (fun h=>by rw [hed] at h;cases h.2),Int.toNat_natCast,HDD.out,hed,shift_shift,Bool.or_false,show k - (p+2)+m=k+m - (p+2) by omega])
     rw [hed] at HEN
     clear HEQ HST hm3
     subst hed
     have hpt:decide (0<m)=true:=decide_eq_true hm0
     have hpg2:=fun W hx hr=>HPG.out W m hx hr rfl
     rw [hpt] at hpg2
     have HPG2:=hJ hpg2
     clear hpg2 hpt
     go_wp2_with (first|(go_at_call 85;refine(HNX.out _ HK.out.rd HK.out.rdy).mono ?_;rintro e w9 ⟨rfl,hb⟩;clear c0 c1 c2 c3 c4 f0 f1 f2 f3 f4 d0 d1 d2 d3 g0 g1 g2 g3 z0 z1 z2 z3 y0 y1 y2 y3;replace HK:=hJ (HK.out.bel hb);clear hb;obtain⟨c0,c1,c2,c3,c4,f0,f1,f2,f3,f4⟩:=RdAt.facts HK.out.rd;obtain⟨d0,d1,d2,d3,g0,g1,g2,g3⟩:=CmAt.facts HK.out.cm;obtain⟨z0,z1,z2,z3,y0,y1,y2,y3⟩:=CmAt.facts HK.out.rs)|(go_at_call 86;refine(HEN.out _).mono ?_;rintro e w9 ⟨rfl,hb⟩;clear c0 c1 c2 c3 c4 f0 f1 f2 f3 f4 d0 d1 d2 d3 g0 g1 g2 g3 z0 z1 z2 z3 y0 y1 y2 y3;replace HK:=hJ (HK.out.bel hb);clear hb;obtain⟨c0,c1,c2,c3,c4,f0,f1,f2,f3,f4⟩:=RdAt.facts HK.out.rd;obtain⟨d0,d1,d2,d3,g0,g1,g2,g3⟩:=CmAt.facts HK.out.cm;obtain⟨z0,z1,z2,z3,y0,y1,y2,y3⟩:=CmAt.facts HK.out.rs)|(go_at_call 91;refine(HPG2.out _ HK.out.rd HK.out.rdy).mono ?_;rintro e w9 ⟨rfl,hx9,hb9⟩;clear c0 c1 c2 c3 c4 f0 f1 f2 f3 f4 d0 d1 d2 d3 g0 g1 g2 g3 z0 z1 z2 z3 y0 y1 y2 y3;replace HK:=hJ (HK.out.step hx9 hb9 (show k+m≤s.size by omega));clear hx9 hb9;obtain⟨c0,c1,c2,c3,c4,f0,f1,f2,f3,f4⟩:=RdAt.facts HK.out.rd;obtain⟨d0,d1,d2,d3,g0,g1,g2,g3⟩:=CmAt.facts HK.out.cm;obtain⟨z0,z1,z2,z3,y0,y1,y2,y3⟩:=CmAt.facts HK.out.rs))
     go_roundw
     case rel=>exact⟨k+m,ln,by omega,HK.out,HN.out⟩
     case measure=>rw [HK.out.rd.pos,HPOS.out];simp only;omega
end
section
open Go.RowKit
def ae0 (p:Nat) (l:List UInt8):Nat:=if Lib.hasPrefix l [47,47]=true then 1 else if Lib.hasPrefix l [47,42]=true then 2 else if p=0∧Lib.hasPrefix l [35,33]=true then 3 else 0
def ap9 (l:List UInt8):Bool:=decide (0<(nx l).2) && (am4 (nx l).1||au9 (nx l).1)
inductive BtO where
 |fine (p:Nat) (line:Bool) (cs:List Cm)
 |bad (place:Int) (code:Int)
def BtO.pre (cs:List Cm):BtO→BtO
 | .fine p line ds=> .fine p line (cs++ds)
 | .bad a c=> .bad a c
def aK3 (p off:Nat) (code:Int):Int:=if code=507 then (p:Int) else ((p+2+off:Nat):Int)
def btwF (s:ByteArray):Nat→Nat→Bool→BtO
 |0,_,_=> .bad 0 0
 |f+1,p,line=>
  if ap9 (s.data.toList.drop p)=true then btwF s f (p+(nx (s.data.toList.drop p)).2.toNat) (line||am4 (nx (s.data.toList.drop p)).1)
  else if ae0 p (s.data.toList.drop p)=0 then .fine p line []
  else match cmt (decide (ae0 p (s.data.toList.drop p)=2)) (s.data.toList.drop (p+2)) with
   | .fine n ln=>(btwF s f (p+2+n) (line||ln)).pre [⟨ae0 p (s.data.toList.drop p),s.extract p (p+2+n),p,((p+2+n:Nat):Int)⟩]
   | .bad off code=> .bad (aK3 p off code) code
theorem bB8 (a c:List Cm) (o:BtO):(o.pre a).pre c=o.pre (c++a):=by
 cases o with
 |fine p line ds=>simp [BtO.pre]
 |bad a c=>rfl
theorem bB7 (o:BtO):o.pre []=o:=by cases o<;>rfl
theorem aE3 {l:List UInt8} (h:ap9 l=true): ∃n:Nat,(nx l).2=n∧0<n∧n≤l.length∧n≤4:=by
 unfold ap9 at h
 simp only [Bool.and_eq_true,decide_eq_true_eq] at h
 obtain⟨n,h1,h2,h3,_⟩:=af8 (l:=l) (by omega)
 exact⟨n,h1,by omega,h2,h3⟩
theorem au0 {p:Nat} {l:List UInt8} (h:ae0 p l≠0):2≤l.length:=by
 unfold ae0 at h
 split at h
 ·rename_i h1;exact ad5 h1
 ·split at h
  ·rename_i h1;exact ad5 h1
  ·split at h
   ·rename_i h1;exact ad5 h1.2
   ·exact absurd rfl h
theorem bf7 (blk:Bool): ∀(f:Nat) (l:List UInt8) (n:Nat) (ln:Bool),cmtF blk f l= .fine n ln→n≤l.length
 |0,_,_,_,h=>by cases h
 |f+1,l,n,ln,h=>by
  rw [cmtF] at h
  split at h
  ·rename_i h1
   cases h
   exact ad5 h1.2
  ·split at h
   ·split at h
    ·cases h
    ·cases h;exact Nat.zero_le _
   ·split at h
    ·cases h
    ·split at h
     ·cases h;exact Nat.zero_le _
     ·rename_i h0 hn _
      obtain⟨m,h3,h4,h5,h6⟩:=af8 (l:=l) (by omega)
      cases hc:cmtF blk f (l.drop (nx l).2.toNat) with
      |fine a c=>
       rw [hc] at h
       cases h
       have:=bf7 blk f _ _ _ hc
       rw [List.length_drop] at this
       omega
      |bad a c=>rw [hc] at h;cases h
theorem bv3 {blk:Bool} {l:List UInt8} {n:Nat} {ln:Bool} (h:cmt blk l= .fine n ln):n≤l.length:=bf7 blk _ _ _ _ h
theorem ax8 (s:ByteArray): ∀(f g p:Nat) (line:Bool),s.size - p<f→s.size - p<g→btwF s f p line=btwF s g p line
 |0,_,_,_,h,_=>by omega
 |_+1,0,_,_,_,h=>by omega
 |f+1,g+1,p,line,h1,h2=>by
  rw [btwF,btwF]
  cases hg:ap9 (s.data.toList.drop p) with
  |true=>
   obtain⟨n,h3,h4,h5,h6⟩:=aE3 hg
   rw [List.length_drop,ofl] at h5
   rw [if_pos rfl,if_pos rfl,ax8 s f g _ _ (by omega) (by omega)]
  |false=>
   rw [if_neg (show¬(false=true) by decide),if_neg (show¬(false=true) by decide)]
   by_cases hk:ae0 p (s.data.toList.drop p)=0
   ·rw [if_pos hk,if_pos hk]
   ·rw [if_neg hk,if_neg hk]
    have hl:=au0 hk
    rw [List.length_drop,ofl] at hl
    cases hc:cmt (decide (ae0 p (s.data.toList.drop p)=2)) (s.data.toList.drop (p+2)) with
    |fine n ln=>
     simp only
     rw [ax8 s f g (p+2+n) _ (by omega) (by omega)]
    |bad off code=>rfl
def btw (s:ByteArray) (p:Nat) (line:Bool):BtO:=btwF s (s.size - p+1) p line
theorem ax9 (s:ByteArray) (p:Nat) (line:Bool) (hp:p≤s.size):btw s p line=
  if ap9 (s.data.toList.drop p)=true then btw s (p+(nx (s.data.toList.drop p)).2.toNat) (line||am4 (nx (s.data.toList.drop p)).1)
  else if ae0 p (s.data.toList.drop p)=0 then .fine p line []
  else match cmt (decide (ae0 p (s.data.toList.drop p)=2)) (s.data.toList.drop (p+2)) with
   | .fine n ln=>(btw s (p+2+n) (line||ln)).pre [⟨ae0 p (s.data.toList.drop p),s.extract p (p+2+n),p,((p+2+n:Nat):Int)⟩]
   | .bad off code=> .bad (aK3 p off code) code:=by
 unfold btw
 rw [btwF]
 cases hg:ap9 (s.data.toList.drop p) with
 |true=>
  obtain⟨n,h3,h4,h5,h6⟩:=aE3 hg
  rw [List.length_drop,ofl] at h5
  rw [if_pos rfl,if_pos rfl]
  exact ax8 s _ _ _ _ (by omega) (by omega)
 |false=>
  rw [if_neg (show¬(false=true) by decide),if_neg (show¬(false=true) by decide)]
  by_cases hk:ae0 p (s.data.toList.drop p)=0
  ·rw [if_pos hk,if_pos hk]
  ·rw [if_neg hk,if_neg hk]
   have hl:=au0 hk
   rw [List.length_drop,ofl] at hl
   cases hc:cmt (decide (ae0 p (s.data.toList.drop p)=2)) (s.data.toList.drop (p+2)) with
   |fine n ln=>
    simp only
    rw [ax8 s (s.size - p) (s.size - (p+2+n)+1) (p+2+n) _ (by omega) (by omega)]
   |bad off code=>rfl
end
section
open Go.RowKit
theorem aN4 (blk:Bool): ∀(f:Nat) (l:List UInt8) (off:Nat) (code:Int),l.length<f→cmtF blk f l= .bad off code→code=502∨code=507
 |0,_,_,_,h,_=>by omega
 |f+1,l,off,code,hf,h=>by
  rw [cmtF] at h
  split at h
  ·cases h
  ·split at h
   ·split at h
    ·cases h;exact .inr rfl
    ·cases h
   ·split at h
    ·cases h;exact .inl rfl
    ·split at h
     ·cases h
     ·rename_i h0 hn _
      obtain⟨m,h3,h4,h5,h6⟩:=af8 (l:=l) (by omega)
      cases hc:cmtF blk f (l.drop (nx l).2.toNat) with
      |fine a c=>rw [hc] at h;cases h
      |bad a c=>
       rw [hc] at h
       cases h
       exact aN4 blk f _ _ _ (by rw [List.length_drop];omega) hc
theorem bo5 {blk:Bool} {l:List UInt8} {off:Nat} {code:Int} (h:cmt blk l= .bad off code):code=502∨code=507:=aN4 blk _ _ _ _ (Nat.lt_succ_self _) h
theorem aR3 (b:Nat) (s:ByteArray) (p:Nat) (line:Bool) (fl cd:Int) (w:World) (hx:RdAt w b s ⟨p,line,fl,cd⟩) (hr:af5 b w) (hs:s.size≤16777216) (hp:p≤s.size) (hk:ae0 p (s.data.toList.drop p)≠0):
  Calls Tryz.prog 88 #[.pointer (some ⟨b,0,none⟩)] w fun e w'=>as1 b s p line fl cd (ae0 p (s.data.toList.drop p):Nat) w (cmt (decide (ae0 p (s.data.toList.drop p)=2)) (s.data.toList.drop (p+2))) e w':=by
 cases h1:Lib.hasPrefix (s.data.toList.drop p) [47,47] with
 |true=>
  have e:ae0 p (s.data.toList.drop p)=1:=by unfold ae0;rw [if_pos h1]
  rw [e]
  exact bf9 b s ⟨p,line,fl,cd⟩ w hx hr hs hp h1
 |false=>
  have n1: ¬Lib.hasPrefix (s.data.toList.drop p) [47,47]=true:=by rw [h1];decide
  cases h2:Lib.hasPrefix (s.data.toList.drop p) [47,42] with
  |true=>
   have e:ae0 p (s.data.toList.drop p)=2:=by unfold ae0;rw [if_neg n1,if_pos h2]
   rw [e]
   exact bg0 b s ⟨p,line,fl,cd⟩ w hx hr hs hp h1 h2
  |false=>
   have n2: ¬Lib.hasPrefix (s.data.toList.drop p) [47,42]=true:=by rw [h2];decide
   by_cases h3:p=0∧Lib.hasPrefix (s.data.toList.drop p) [35,33]=true
   ·have e:ae0 p (s.data.toList.drop p)=3:=by unfold ae0;rw [if_neg n1,if_neg n2,if_pos h3]
    rw [e]
    exact bg1 b s ⟨p,line,fl,cd⟩ w hx hr hs hp h1 h2 h3.1 h3.2
   ·exact absurd (by unfold ae0;rw [if_neg n1,if_neg n2,if_neg h3]) hk
theorem aN6 (b:Nat) (s:ByteArray) (p:Nat) (line:Bool) (fl cd:Int) (w:World) (hx:RdAt w b s ⟨p,line,fl,cd⟩) (hr:af5 b w) (hp:p≤s.size) (hk:ae0 p (s.data.toList.drop p)=0):
  Calls Tryz.prog 88 #[.pointer (some ⟨b,0,none⟩)] w fun e w'=> ∃c:Cm,e= .returned (.tuple #[c.val,.bool false])∧RdAt w' b s ⟨p,line,fl,cd⟩∧But b w w':=by
 unfold ae0 at hk
 split at hk
 ·cases hk
 ·rename_i h1
  split at hk
  ·cases hk
  ·rename_i h2
   split at hk
   ·cases hk
   ·rename_i h3
    refine bb3 b s ⟨p,line,fl,cd⟩ w hx hr hp (by simpa using h1) (by simpa using h2) fun h0=> ?_
    cases h4:Lib.hasPrefix (s.data.toList.drop p) [35,33] with
    |false=>rfl
    |true=>exact absurd ⟨h0,h4⟩ h3
def aj9 (c:Cm):List Value:= [.int .i64 c.kind,.string c.text,.int .i64 c.from',.int .i64 c.till]
def ar9 (cs:List Cm):List Value:=cs.flatMap aj9
theorem bk4 {w w':World} {b base size n:Nat} {e:TypeId} {v:Value} {xs:List Value} (h:w.ownsRow base e size v n xs) (hb:But b w w') (hbb:b<base):w'.ownsRow base e size v n xs:=by
 refine⟨h.1,?_⟩
 rcases h.2 with h2|⟨g,cap,cur,hv,hg,hh,r⟩
 ·exact .inl h2
 ·refine .inr ⟨g,cap,cur,hv,hg,?_,r⟩
  rw [hb.block g (Array.getElem?_eq_some_iff.1 hh).1 (by omega)]
  exact hh
structure Bst (b:Nat) (s:ByteArray) (w0:World) (x:Rd) (v:Value) (cs:List Cm) (w:World):Prop where
 rd:RdAt w b s x
 own:w.ownsRow w0.heap.size 115 4 v cs.length (ar9 cs)
 but:But b w0 w
 rdy:af5 b w
 le:x.at'≤s.size
 bl:b<w0.heap.size
theorem Bst.step {b:Nat} {s:ByteArray} {w0 w w':World} {x y:Rd} {v:Value} {cs:List Cm} (h:Bst b s w0 x v cs w) (hx:RdAt w' b s y) (hb:But b w w') (hl:y.at'≤s.size):Bst b s w0 y v cs w':=
 ⟨hx,bk4 h.own hb h.bl,h.but.trans hb,h.rdy.but h.rd.lt hb,hl,h.bl⟩
theorem Bst.bel {b:Nat} {s:ByteArray} {w0 w w':World} {x:Rd} {v:Value} {cs:List Cm} (h:Bst b s w0 x v cs w) (hb:Below w.heap.size w w'):Bst b s w0 x v cs w':=h.step (h.rd.bel hb) (.of_below hb) h.le
theorem Bst.setRd {b:Nat} {s:ByteArray} {w0 w:World} {x y:Rd} {v:Value} {cs:List Cm} (h:Bst b s w0 x v cs w) (k:Nat) (u:Value) (hy:(x.cells s).setIfInBounds k u=y.cells s) (hl:y.at'≤s.size):Bst b s w0 y v cs (w.setCell ⟨b,k,none⟩ u):=
 h.step (h.rd.set k u hy) ((But.refl b w).setCell k u) hl
theorem Bst.push {b:Nat} {s:ByteArray} {w0 w w1:World} {x:Rd} {v v':Value} {cs:List Cm} {o:Obj} (cm:Cm) (h:Bst b s w0 x v cs w) (hg:(w.alloc o).grownBy w1 v.ownBlock) (ho:w1.ownsRow w0.heap.size 115 4 v' (cs.length+1) (ar9 cs++aj9 cm)):Bst b s w0 x v' (cs++ [cm]) w1:=by
 have hb:Below w0.heap.size w w1:=by
  refine((Below.refl _ w).alloc h.but.size o).grown hg ?_ ?_
  ·have:=h.but.size;rw [World.size_alloc];omega
  ·intro k hk
   rcases h.own.2 with ⟨e,_⟩|⟨g,cap,cur,e,h2,_⟩
   ·rw [e] at hk;cases hk
   ·rw [e] at hk;cases hk;exact h2
 have hbl:=h.bl
 exact⟨(hb.block b h.bl).trans h.rd,by simpa [ar9,List.flatMap_append] using ho,⟨hb.os.trans h.but.os,hb.tape.trans h.but.tape,hb.output.trans h.but.output,Nat.le_trans h.but.size hb.size,fun k h1 h2=>(hb.block k h1).trans (h.but.block k h1 h2)⟩,h.rdy.bel ⟨hb.os,hb.tape,hb.output,hb.size,fun k hk=>hb.block k (by omega)⟩,h.le,h.bl⟩
theorem bp0 (w:World) (c:Cm): ∀j u,(aj9 c)[j]? =some u→(w.alloc (.cells #[.int .i64 c.kind,.string c.text,.int .i64 c.from',.int .i64 c.till] 115)).cell? ((⟨w.heap.size,0,none⟩:Addr).add j)=some u:=by
 intro j u h
 have hc:CmAt (w.alloc (.cells c.cells 115)) w.heap.size c:=heap_alloc_new _ _
 have hadd:(⟨w.heap.size,0,none⟩:Addr).add j=⟨w.heap.size,j,none⟩:=by unfold Addr.add;split<;>simp_all
 rw [hadd]
 have:=hc.cell j
 unfold Cm.cells at this
 rw [this]
 simpa [aj9] using h
def aM6 (b:Nat) (s:ByteArray) (w:World) (fl:Int) (o:BtO) (e:Ending) (w':World):Prop:=match o with
 | .fine p line cs=> ∃v,e= .returned (.tuple #[v,.bool true])∧Bst b s w ⟨p,line,fl,0⟩ v cs w'
 | .bad place code=> ∃v x',e= .returned (.tuple #[v,.bool false])∧RdAt w' b s x'∧x'.fail=place∧x'.code=code∧code≠0∧But b w w'
def bK2 (b:Nat) (s:ByteArray) (w:World) (p:Nat) (line:Bool) (fl:Int) (v:Value) (wr:World):Prop:=
 ∃(k:Nat) (ln:Bool) (cs:List Cm),p≤k∧cs.length≤k∧Bst b s w ⟨k,ln,fl,0⟩ v cs wr∧btw s p line=(btw s k ln).pre cs
theorem bG9:(Tryz.prog.info? 115).map (fun i=>(i.zero,i.size,i.bytes))=some (some (.agg #[.int .i64 0,.string ⟨#[]⟩,.int .i64 0,.int .i64 0]),4,40):=by kernel_rfl
theorem aD3 (b:Nat) (s:ByteArray) (p:Nat) (line:Bool) (fl:Int) (w:World) (hx:RdAt w b s ⟨p,line,fl,0⟩) (hr:af5 b w) (hs:s.size≤16777216) (hp:p≤s.size):
  Calls Tryz.prog 51 #[.pointer (some ⟨b,0,none⟩)] w fun e w'=>aM6 b s w fl (btw s p line) e w':=by
 obtain⟨i0,hi,hz0,hz1,hz2⟩:=info_parts bG9
 have HB0:=hJ (show Bst b s w ⟨p,line,fl,0⟩ (.slice none 0 0) [] w from⟨hx,World.ownsRow_nil _ _ _ _,But.refl _ _,hr,hp,hx.lt⟩)
 clear hx hr
 go_enter Tryz.func51,Tryz.ntmps51
 go_wp2
 go_loopw [4,5,6,7,8] (fun v _ _ _ _ wr=>bK2 b s w p line fl v wr) (fun _ _ _ _ _ wr=>s.size - aH6 wr b)
 case atStart=>exact⟨p,line,[],Nat.le_refl _,Nat.zero_le _,HB0.out,by rw [bB7]⟩
 case round=>
  obtain⟨k,ln,cs,hk,hcl,hbst,heq⟩:=hrel
  have hle:=hbst.le
  simp only at hle
  have HPOS:=hJ hbst.rd.pos
  have hst:=ax9 s k ln hle
  have hnx:=fun W hx hr=>af2 b s ⟨k,ln,fl,0⟩ W hx hr hle
  have hpz:=fun h=>af8 (l:=s.data.toList.drop k) h
  rw [List.length_drop,ofl] at hpz
  have hends:=fun W=>au1 (nx (s.data.toList.drop k)).1 W
  have hblank:=fun W=>bf0 (nx (s.data.toList.drop k)).1 W
  have hgap:ap9 (s.data.toList.drop k)=(decide (0<(nx (s.data.toList.drop k)).2) && (am4 (nx (s.data.toList.drop k)).1||au9 (nx (s.data.toList.drop k)).1)):=rfl
  have hcn:=fun W hx hr h=>aN6 b s k ln fl 0 W hx hr hle h
  have hcy:=fun W hx hr h=>aR3 b s k ln fl 0 W hx hr hs hle h
  clear HB0
  have HK:=hJ hbst
  clear hbst
  simp only at hnx
  generalize he:am4 (nx (s.data.toList.drop k)).1=ed at*
  generalize hbl:au9 (nx (s.data.toList.drop k)).1=bl at*
  generalize hc:(nx (s.data.toList.drop k)).1=c at*
  generalize hn:(nx (s.data.toList.drop k)).2=n at*
  generalize ap9 (s.data.toList.drop k)=ig at*
  clear he hbl hc hn
  have HNX:=hJ hnx
  have HPZ:=hJ hpz
  have HEN:=hJ hends
  have HBL:=hJ hblank
  have HEQ:=hJ heq
  have HST:=hJ hst
  have HG:=hJ hgap
  have HCN:=hJ hcn
  have HCY:=hJ hcy
  clear hnx hpz hends hblank heq hst hgap hcn hcy
  obtain⟨c0,c1,c2,c3,c4,f0,f1,f2,f3,f4⟩:=RdAt.facts HK.out.rd
  go_upto_region 3 with (go_at_call 85;refine(HNX.out _ HK.out.rd HK.out.rdy).mono ?_;rintro e w9 ⟨rfl,hb⟩;clear c0 c1 c2 c3 c4 f0 f1 f2 f3 f4;replace HK:=hJ (HK.out.bel hb);clear hb;obtain⟨c0,c1,c2,c3,c4,f0,f1,f2,f3,f4⟩:=RdAt.facts HK.out.rd)
  go_cut [23] from 14 to 22 (fun v wx=>v= .bool ig∧Bst b s w ⟨k,ln,fl,0⟩ u4 cs wx)
  case first=>
   clear HEQ HST HCN HCY
   by_cases hn0:0<n
   ·cases hed:ed with
    |true=>
     have HV:=hJ (show ig=true by rw [HG.out,decide_eq_true hn0,hed];rfl)
     rw [hed] at HEN
     go_wp2_with (go_at_call 86;refine(HEN.out _).mono ?_;rintro e w9 ⟨rfl,hb⟩;clear c0 c1 c2 c3 c4 f0 f1 f2 f3 f4;replace HK:=hJ (HK.out.bel hb);clear hb;obtain⟨c0,c1,c2,c3,c4,f0,f1,f2,f3,f4⟩:=RdAt.facts HK.out.rd)
     go_meet
     exact⟨by rw [HV.out],HK.out⟩
    |false=>
     have HV:=hJ (show ig=bl by rw [HG.out,decide_eq_true hn0,hed];rfl)
     rw [hed] at HEN
     go_wp2_with (first|(go_at_call 86;refine(HEN.out _).mono ?_;rintro e w9 ⟨rfl,hb⟩;clear c0 c1 c2 c3 c4 f0 f1 f2 f3 f4;replace HK:=hJ (HK.out.bel hb);clear hb;obtain⟨c0,c1,c2,c3,c4,f0,f1,f2,f3,f4⟩:=RdAt.facts HK.out.rd)|(go_at_call 87;refine(HBL.out _).mono ?_;rintro e w9 ⟨rfl,hb⟩;clear c0 c1 c2 c3 c4 f0 f1 f2 f3 f4;replace HK:=hJ (HK.out.bel hb);clear hb;obtain⟨c0,c1,c2,c3,c4,f0,f1,f2,f3,f4⟩:=RdAt.facts HK.out.rd))
     go_meet
     exact⟨by rw [HV.out],HK.out⟩
   ·have HV:=hJ (show ig=false by rw [HG.out,decide_eq_false hn0];rfl)
    go_wp2_with fail
    go_meet
    exact⟨by rw [HV.out],HK.out⟩
  case rest=>
   obtain⟨rfl,hbst⟩:=hcut
   clear c0 c1 c2 c3 c4 f0 f1 f2 f3 f4
   clear HK HBL
   have HK:=hJ hbst
   clear hbst
   obtain⟨c0,c1,c2,c3,c4,f0,f1,f2,f3,f4⟩:=RdAt.facts HK.out.rd
   cases hig:ig with
   |true=>
    have hn0:0<n:=by
     have:=HG.out
     rw [hig] at this
     simp only [Bool.and_eq_true,eq_comm (a:=true),decide_eq_true_eq] at this
     exact this.1
    obtain⟨m,rfl,hm1,hm2,hm3⟩:=HPZ.out (by omega)
    have HN:=hJ (show btw s p line=(btw s (k+m) (ln||ed)).pre cs by rw [HEQ.out,HST.out,if_pos hig,Int.toNat_natCast])
    clear HEQ HST HCN HCY HPZ HG hm3
    subst hig
    cases hln:ln with
    |true=>
     rw [hln] at HN HNX
     subst hln
     cases hed:ed with
     |true=>
      rw [hed] at HN HEN
      subst hed
      go_upto_region 5 with fail
      have hkc:=HK.out.setRd (y:=⟨k,true,fl,0⟩) 2 (.bool true) rfl hle
      clear c0 c1 c2 c3 c4 f0 f1 f2 f3 f4
      clear HK
      generalize World.setCell _ _ _=w6 at*
      have HK:=hJ hkc
      clear hkc
      obtain⟨c0,c1,c2,c3,c4,f0,f1,f2,f3,f4⟩:=RdAt.facts HK.out.rd
      go_wp2_with fail
      have hkd:=HK.out.setRd (y:=⟨k+m,true,fl,0⟩) 0 (.int .i64 ((k:Int)+(m:Int))) rfl (show k+m≤s.size by omega)
      go_roundw
      case rel=>exact⟨k+m,_,cs,by omega,by omega,hkd,HN.out⟩
      case measure=>rw [hkd.rd.pos,HPOS.out];simp only;omega
     |false=>
      rw [hed] at HN HEN
      subst hed
      go_upto_region 5 with fail
      have hkc:=HK.out.setRd (y:=⟨k,true,fl,0⟩) 2 (.bool true) rfl hle
      clear c0 c1 c2 c3 c4 f0 f1 f2 f3 f4
      clear HK
      generalize World.setCell _ _ _=w6 at*
      have HK:=hJ hkc
      clear hkc
      obtain⟨c0,c1,c2,c3,c4,f0,f1,f2,f3,f4⟩:=RdAt.facts HK.out.rd
      go_wp2_with fail
      have hkd:=HK.out.setRd (y:=⟨k+m,true,fl,0⟩) 0 (.int .i64 ((k:Int)+(m:Int))) rfl (show k+m≤s.size by omega)
      go_roundw
      case rel=>exact⟨k+m,_,cs,by omega,by omega,hkd,HN.out⟩
      case measure=>rw [hkd.rd.pos,HPOS.out];simp only;omega
    |false=>
     rw [hln] at HN HNX
     subst hln
     cases hed:ed with
     |true=>
      rw [hed] at HN HEN
      subst hed
      go_upto_region 5 with (go_at_call 86;refine(HEN.out _).mono ?_;rintro e w9 ⟨rfl,hb⟩;clear c0 c1 c2 c3 c4 f0 f1 f2 f3 f4;replace HK:=hJ (HK.out.bel hb);clear hb;obtain⟨c0,c1,c2,c3,c4,f0,f1,f2,f3,f4⟩:=RdAt.facts HK.out.rd)
      have hkc:=HK.out.setRd (y:=⟨k,true,fl,0⟩) 2 (.bool true) rfl hle
      clear c0 c1 c2 c3 c4 f0 f1 f2 f3 f4
      clear HK
      generalize World.setCell _ _ _=w6 at*
      have HK:=hJ hkc
      clear hkc
      obtain⟨c0,c1,c2,c3,c4,f0,f1,f2,f3,f4⟩:=RdAt.facts HK.out.rd
      go_wp2_with fail
      have hkd:=HK.out.setRd (y:=⟨k+m,true,fl,0⟩) 0 (.int .i64 ((k:Int)+(m:Int))) rfl (show k+m≤s.size by omega)
      go_roundw
      case rel=>exact⟨k+m,_,cs,by omega,by omega,hkd,HN.out⟩
      case measure=>rw [hkd.rd.pos,HPOS.out];simp only;omega
     |false=>
      rw [hed] at HN HEN
      subst hed
      go_upto_region 5 with (go_at_call 86;refine(HEN.out _).mono ?_;rintro e w9 ⟨rfl,hb⟩;clear c0 c1 c2 c3 c4 f0 f1 f2 f3 f4;replace HK:=hJ (HK.out.bel hb);clear hb;obtain⟨c0,c1,c2,c3,c4,f0,f1,f2,f3,f4⟩:=RdAt.facts HK.out.rd)
      have hkc:=HK.out.setRd (y:=⟨k,false,fl,0⟩) 2 (.bool false) rfl hle
      clear c0 c1 c2 c3 c4 f0 f1 f2 f3 f4
      clear HK
      generalize World.setCell _ _ _=w6 at*
      have HK:=hJ hkc
      clear hkc
      obtain⟨c0,c1,c2,c3,c4,f0,f1,f2,f3,f4⟩:=RdAt.facts HK.out.rd
      go_wp2_with fail
      have hkd:=HK.out.setRd (y:=⟨k+m,false,fl,0⟩) 0 (.int .i64 ((k:Int)+(m:Int))) rfl (show k+m≤s.size by omega)
      go_roundw
      case rel=>exact⟨k+m,_,cs,by omega,by omega,hkd,HN.out⟩
      case measure=>rw [hkd.rd.pos,HPOS.out];simp only;omega
   |false=>
    by_cases hk0:ae0 k (s.data.toList.drop k)=0
    ·have HN:=hJ (show btw s p line= .fine k ln cs by rw [HEQ.out,HST.out,hig,if_neg (by decide),if_pos hk0];simp [BtO.pre])
     clear HEQ HST HCY HPZ HG HNX HEN
     subst hig
     go_upto_region 7 with (go_at_call 88;refine(HCN.out _ HK.out.rd HK.out.rdy hk0).mono ?_;rintro e w9 ⟨⟨kd,tx,fr,tl⟩,rfl,hx9,hb9⟩;unfold Cm.val Cm.cells;clear c0 c1 c2 c3 c4 f0 f1 f2 f3 f4;replace HK:=hJ (HK.out.step hx9 hb9 hle);clear hx9 hb9;obtain⟨c0,c1,c2,c3,c4,f0,f1,f2,f3,f4⟩:=RdAt.facts HK.out.rd)
     have hk1:=fun o=>HK.out.bel (Below.alloc (Below.refl _ w9) (Nat.le_refl _) o)
     have hk2:=hk1 (.cells (Cm.cells ⟨kd,tx,fr,tl⟩) 115)
     unfold Cm.cells at hk2
     simp only at hk2
     clear c0 c1 c2 c3 c4 f0 f1 f2 f3 f4
     clear HK hk1
     generalize w9.alloc (.cells #[.int .i64 kd,.string tx,.int .i64 fr,.int .i64 tl] 115)=w10 at*
     have HK:=hJ hk2
     clear hk2
     obtain⟨c0,c1,c2,c3,c4,f0,f1,f2,f3,f4⟩:=RdAt.facts HK.out.rd
     go_upto_region 8 with fail
     go_quiet (fail)
     go_wp2_with fail
     go_ret2
     rw [HN.out]
     exact⟨_,rfl,HK.out.bel (aa3 (Below.refl _ _) _)⟩
    ·cases ho:cmt (decide (ae0 k (s.data.toList.drop k)=2)) (s.data.toList.drop (k+2)) with
     |fine n' ln'=>
      have hl2:=au0 hk0
      rw [List.length_drop,ofl] at hl2
      have hl3:=bv3 ho
      rw [List.length_drop,ofl] at hl3
      have hln:k+2+n'≤s.size:=by omega
      have HN:=hJ (show btw s p line=(btw s (k+2+n') (ln||ln')).pre (cs++ [⟨ae0 k (s.data.toList.drop k),s.extract k (k+2+n'),k,(k:Int)+2+(n':Int)⟩]) by rw [show (k:Int)+2+(n':Int)=((k+2+n':Nat):Int) by omega,HEQ.out,HST.out,hig,if_neg (by decide),if_neg hk0,ho,bB8])
      have hcy:=fun W hx hr=>HCY.out W hx hr hk0
      rw [ho] at hcy
      unfold as1 at hcy
      simp only at hcy
      generalize (ae0 k (s.data.toList.drop k):Nat)=K at*
      generalize s.extract k (k+2+n')=X at*
      have HCY2:=hJ hcy
      clear HEQ HST HCY HCN HPZ HG HNX HEN hcy ho hk0 hl2 hl3
      subst hig
      go_upto_region 7 with (go_at_call 88;refine(HCY2.out _ HK.out.rd HK.out.rdy).mono ?_;rintro e w9 ⟨rfl,hx9,hb9⟩;unfold Cm.val Cm.cells;clear c0 c1 c2 c3 c4 f0 f1 f2 f3 f4;replace HK:=hJ (HK.out.step hx9 hb9 hln);clear hx9 hb9 HCY2;obtain⟨c0,c1,c2,c3,c4,f0,f1,f2,f3,f4⟩:=RdAt.facts HK.out.rd)
      have hk1:=fun o=>HK.out.bel (Below.alloc (Below.refl _ w9) (Nat.le_refl _) o)
      have hk2:=hk1 (.cells (Cm.cells ⟨K,X,k,((k+2+n':Nat):Int)⟩) 115)
      have hcm:CmAt (w9.alloc (.cells (Cm.cells ⟨K,X,k,((k+2+n':Nat):Int)⟩) 115)) w9.heap.size ⟨K,X,k,((k+2+n':Nat):Int)⟩:=heap_alloc_new _ _
      unfold Cm.cells at hk2 hcm
      simp only at hk2 hcm
      clear c0 c1 c2 c3 c4 f0 f1 f2 f3 f4
      clear HK hk1
      have e32:((k+2+n':Nat):Int)=(k:Int)+2+(n':Int):=by omega
      rw [e32] at hk2 hcm
      generalize hwa:w9.alloc (.cells #[.int .i64 (K:Int),.string X,.int .i64 (k:Int),.int .i64 ((k:Int)+2+(n':Int))] 115)=w10 at*
      generalize w9.heap.size=gc at*
      have HK:=hJ hk2
      clear hk2 e32 hwa
      obtain⟨c0,c1,c2,c3,c4,f0,f1,f2,f3,f4⟩:=RdAt.facts HK.out.rd
      obtain⟨d0,d1,d2,d3,g0,g1,g2,g3⟩:=CmAt.facts hcm
      have hown:=HK.out.own
      have hsz:=HK.out.but.size
      have hone: ∀u ∈ aj9 ⟨K,X,k,(k:Int)+2+(n':Int)⟩,u.oneCell'=true:=by
       intro u hu
       simp only [aj9,List.mem_cons,List.not_mem_nil,or_false] at hu
       rcases hu with rfl|rfl|rfl|rfl<;>rfl
      go_upto_region 9 with fail
      go_wp2_with (at_builtin;refine wpList_append_own_at _ rfl _ _ 36 rfl w.heap.size 115 i0 (.agg #[.int .i64 0,.string ⟨#[]⟩,.int .i64 0,.int .i64 0]) 4 40 (by kernel_rfl) hi hz0 hz1 hz2 rfl (by decide) _ _ _ rfl (hown.alloc _) ⟨w10.heap.size,0,none⟩ 1 1 (aj9 ⟨K,X,k,(k:Int)+2+(n':Int)⟩) rfl rfl (bp0 _ _) hone (by unfold maxLen;omega) (by omega) (by rw [World.size_alloc];omega) ?_)
      intro v' w1 hown' hgrow _ _
      have hpush:=Bst.push ⟨K,X,k,(k:Int)+2+(n':Int)⟩ HK.out hgrow hown'
      clear c0 c1 c2 c3 c4 f0 f1 f2 f3 f4
      clear hown' hgrow hown hcm d0 d1 d2 d3 g0 g1 g2 g3
      go_wp2_with fail
      go_roundw
      case rel=>exact⟨k+2+n',_,cs++ [⟨K,X,k,(k:Int)+2+(n':Int)⟩],by omega,by simp;omega,hpush,HN.out⟩
      case measure=>rw [hpush.rd.pos,HPOS.out];simp only;omega
     |bad off code=>
      have hcd:=bo5 ho
      have HN:=hJ (show btw s p line= .bad (aK3 k off code) code by rw [HEQ.out,HST.out,hig,if_neg (by decide),if_neg hk0,ho];rfl)
      have hcy:=fun W hx hr=>HCY.out W hx hr hk0
      rw [ho] at hcy
      unfold as1 at hcy
      simp only at hcy
      have HCY2:=hJ hcy
      have hc0:(code==0)=false:=by rw [beq_eq_false_iff_ne];omega
      clear HEQ HST HCY HCN HPZ HG HNX HEN hcy ho hk0
      subst hig
      go_upto_region 7 with (go_at_call 88;refine(HCY2.out _ HK.out.rd HK.out.rdy).mono ?_;rintro e w9 ⟨⟨kd,tx,fr,tl⟩,⟨p9,l9,f9,c9⟩,rfl,hx9,hc9,hf9,hb9⟩;simp only at hc9 hf9;subst hc9;unfold Cm.val Cm.cells;clear c0 c1 c2 c3 c4 f0 f1 f2 f3 f4;have HX9:=hJ hx9;have HB9:=hJ (HK.out.but.trans hb9);have HF9:=hJ hf9;clear hx9 hb9 hf9 HK HCY2)
      have hx10:=fun o=>HX9.out.bel (Below.alloc (Below.refl _ w9) (Nat.le_refl _) o)
      have hx11:=hx10 (.cells (Cm.cells ⟨kd,tx,fr,tl⟩) 115)
      have hb10:=HB9.out.bel (Below.alloc (Below.refl _ w9) (Nat.le_refl _) (.cells (Cm.cells ⟨kd,tx,fr,tl⟩) 115))
      unfold Cm.cells at hx11 hb10
      simp only at hx11 hb10
      clear hx10 HX9 HB9
      generalize w9.alloc (.cells #[.int .i64 kd,.string tx,.int .i64 fr,.int .i64 tl] 115)=w10 at*
      have HX:=hJ hx11
      clear hx11
      obtain⟨c0,c1,c2,c3,c4,f0,f1,f2,f3,f4⟩:=RdAt.facts HX.out
      go_upto_region 8 with fail
      go_quiet (fail)
      go_wp2_with fail
      go_ret2
      rw [HN.out]
      exact⟨_,_,rfl,HX.out.bel (aa3 (Below.refl _ _) _),HF9.out,rfl,by omega,hb10.drewN _⟩
end
section
open Go.RowKit
inductive TpO where
 |fine (n:Nat) (head:Bool)
 |bad (off:Nat) (code:Int)
def TpO.shift (m:Nat):TpO→TpO
 | .fine n h=> .fine (m+n) h
 | .bad off code=> .bad (m+off) code
def esc (l:List UInt8):Nat:=if Lib.hasPrefix l [92]=true then 1 else 0
theorem bg7 (l:List UInt8):esc l≤l.length:=by
 unfold esc
 split
 ·rename_i h
  cases l with
  |nil=>exact absurd h (by decide)
  |cons a t=>simp
 ·omega
def tplF:Nat→List UInt8→TpO
 |0,_=> .bad 0 0
 |f+1,l=>
  if Lib.hasPrefix l [96]=true then .fine 1 false
  else if Lib.hasPrefix l [36,123]=true then .fine 2 true
  else if (nx (l.drop (esc l))).2=0 then .bad (esc l) 505
  else if (nx (l.drop (esc l))).2<0 then .bad (esc l) 502
  else (tplF f (l.drop (esc l+(nx (l.drop (esc l))).2.toNat))).shift (esc l+(nx (l.drop (esc l))).2.toNat)
theorem aQ1: ∀(f g:Nat) (l:List UInt8),l.length<f→l.length<g→tplF f l=tplF g l
 |0,_,_,h,_=>by omega
 |_+1,0,_,_,h=>by omega
 |f+1,g+1,l,h1,h2=>by
  rw [tplF,tplF]
  by_cases e0:(nx (l.drop (esc l))).2<0
  ·simp only [if_pos e0]
  ·by_cases e1:(nx (l.drop (esc l))).2=0
   ·simp only [if_pos e1]
   ·obtain⟨m,h3,h4,h5,h6⟩:=af8 (l:=l.drop (esc l)) (by omega)
    have hle:=bg7 l
    rw [List.length_drop] at h4
    rw [aQ1 f g (l.drop (esc l+(nx (l.drop (esc l))).2.toNat)) (by rw [List.length_drop,h3,Int.toNat_natCast];omega) (by rw [List.length_drop,h3,Int.toNat_natCast];omega)]
def tpl (l:List UInt8):TpO:=tplF (l.length+1) l
theorem bt9 (l:List UInt8):tpl l=
  if Lib.hasPrefix l [96]=true then .fine 1 false
  else if Lib.hasPrefix l [36,123]=true then .fine 2 true
  else if (nx (l.drop (esc l))).2=0 then .bad (esc l) 505
  else if (nx (l.drop (esc l))).2<0 then .bad (esc l) 502
  else (tpl (l.drop (esc l+(nx (l.drop (esc l))).2.toNat))).shift (esc l+(nx (l.drop (esc l))).2.toNat):=by
 unfold tpl
 rw [tplF]
 by_cases e0:(nx (l.drop (esc l))).2<0
 ·simp only [if_pos e0]
 ·by_cases e1:(nx (l.drop (esc l))).2=0
  ·simp only [if_pos e1]
  ·obtain⟨m,h3,h4,h5,h6⟩:=af8 (l:=l.drop (esc l)) (by omega)
   have hle:=bg7 l
   rw [List.length_drop] at h4
   rw [aQ1 l.length ((l.drop (esc l+(nx (l.drop (esc l))).2.toNat)).length+1) (l.drop (esc l+(nx (l.drop (esc l))).2.toNat)) (by rw [List.length_drop,h3,Int.toNat_natCast];omega) (by omega)]
end
end Go.Proofs.YtcgbkjhoifhnnaaGreatDoor
