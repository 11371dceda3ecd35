/- Steps (LPD LN LPE LPH LPI LQ LS). Conditions: as stated. -/
import Derived.Test.YtnobjeelihkjmaaGreatDoorZk03
set_option maxHeartbeats 4000000
set_option maxRecDepth 20000
namespace Go.Proofs.YtnobjeelihkjmaaGreatDoor
section
open Go.RowKit
def TkB (b:Nat) (s:ByteArray) (p:Nat) (line:Bool) (fl:Int) (w:World) (o:TkO) (e:Ending) (w':World):Prop:=match o with
 | .fine _ n=>e= .returned (.bool true)∧Tst b s w ⟨p+n,line,fl,0⟩ w'
 | .bad off code=> ∃x':Rd,e= .returned (.bool false)∧Tst b s w x' w'∧x'.line=line∧x'.fail=((p+off:Nat):Int)∧x'.code=code
theorem Tst.drew {b:Nat} {s:ByteArray} {w0 w:World} {x:Rd} (h:Tst b s w0 x w):Tst b s w0 x w.drew:=h.bel (Below.drew (Below.refl _ _))
theorem bb9 (s:ByteArray) (p:Nat) (hp:p<s.size) (h:p+1+sc s[p] (s.data.toList.drop (p+1))<s.size) (hq:s[p+1+sc s[p] (s.data.toList.drop (p+1))]=s[p]):
  p+txtL (s.data.toList.drop p)=p+1+sc s[p] (s.data.toList.drop (p+1))+1:=by
 rw [ac5 s p hp,txtL,List.drop_drop,if_pos]
 ·omega
 ·refine⟨by rw [List.length_drop,ofl];omega,?_⟩
  rw [ac5 s _ h,hq]
  rfl
theorem bq6 (s:ByteArray) (p:Nat) (hp:p<s.size) (h: ∀h:p+1+sc s[p] (s.data.toList.drop (p+1))<s.size,s[p+1+sc s[p] (s.data.toList.drop (p+1))]≠s[p]):
  p+txtL (s.data.toList.drop p)=min (p+1+sc s[p] (s.data.toList.drop (p+1))) s.size:=by
 rw [ac5 s p hp,txtL,List.drop_drop,if_neg,List.length_drop,ofl]
 ·omega
 ·rintro⟨h1,h2⟩
  rw [List.length_drop,ofl] at h1
  have h3:p+1+sc s[p] (s.data.toList.drop (p+1))<s.size:=by omega
  rw [ac5 s _ h3] at h2
  exact h h3 (Option.some.inj h2)
theorem bG8 (s:ByteArray) (p:Nat) (hp:p<s.size):p+txtL (s.data.toList.drop p)≤s.size:=by
 by_cases h: ∃h:p+1+sc s[p] (s.data.toList.drop (p+1))<s.size,s[p+1+sc s[p] (s.data.toList.drop (p+1))]=s[p]
 ·obtain⟨h1,h2⟩:=h
  rw [bb9 s p hp h1 h2]
  omega
 ·rw [bq6 s p hp (fun h1 h2=>h ⟨h1,h2⟩)]
  omega
theorem aS8 (s:ByteArray) (p n:Nat):(s.extract p (p+n)).data.toList=(s.data.toList.drop p).take n:=by
 rw [Lib.extract_data]
 congr 1
 omega
theorem bb8 (b:Nat) (s:ByteArray) (p:Nat) (line:Bool) (fl:Int) (w:World) (hx:RdAt w b s ⟨p,line,fl,0⟩) (hr:ae6 b w) (hs:s.size≤16777216) (hp:p<s.size):
  Calls Tryz.prog 104 #[.pointer (some ⟨b,0,none⟩)] w fun e w'=>TkB b s p line fl w (txt (s.data.toList.drop p)) e w':=by
 have HK:=hJ (show Tst b s w ⟨p,line,fl,0⟩ w from⟨hx,But.refl _ _,hr,Nat.le_of_lt hp⟩)
 have hle:=Nat.le_of_lt hp
 have hT1:=bb9 s p hp
 have hT2:=bq6 s p hp
 have hT3:=bG8 s p hp
 have hm:=aS8 s p (txtL (s.data.toList.drop p))
 have hsc:=bG4 ((s.data.toList.drop p).take (txtL (s.data.toList.drop p)))
 rw [←hm,ofl,ByteArray.size_extract] at hsc
 have htx:txt (s.data.toList.drop p)=if (strC (s.extract p (p+txtL (s.data.toList.drop p))).data.toList).1=true then .fine 4 (txtL (s.data.toList.drop p)) else if (strC (s.extract p (p+txtL (s.data.toList.drop p))).data.toList).2<txtL (s.data.toList.drop p)∧(nx (s.data.toList.drop (p+(strC (s.extract p (p+txtL (s.data.toList.drop p))).data.toList).2))).2<0 then .bad (strC (s.extract p (p+txtL (s.data.toList.drop p))).data.toList).2 502 else .bad (strC (s.extract p (p+txtL (s.data.toList.drop p))).data.toList).2 504:=by
  unfold txt
  rw [hm,List.drop_drop]
 have hck:=fun W h=>bh0 (s.extract p (p+txtL (s.data.toList.drop p))) W (by rw [ByteArray.size_extract];omega) h
 generalize txt (s.data.toList.drop p)=O at*
 generalize txtL (s.data.toList.drop p)=T at*
 obtain⟨⟨f,a⟩,hfa⟩: ∃o,strC (s.extract p (p+T)).data.toList=o:=⟨_,rfl⟩
 rw [hfa] at hsc htx hck
 simp only at hsc htx hck
 have ha:p+a≤s.size:=by omega
 have haT:a≤T:=by omega
 generalize hA1:(if f=true then (0:Int) else (a:Int))=A1 at hck
 generalize hE1:(if f=true then (0:Int) else 300)=E1 at hck
 have HA1:=hJ hA1
 have HE1:=hJ hE1
 have HTX:=hJ htx
 have HCK:=hJ hck
 have HT1:=hJ hT1
 have HT2:=hJ hT2
 have HT3:=hJ hT3
 clear hT1 hT2 hm hsc htx hck hfa hx hr hA1 hE1
 obtain⟨c0,c1,c2,c3,c4,f0,f1,f2,f3,f4⟩:=RdAt.facts HK.out.rd
 go_enter Tryz.func104,Tryz.ntmps104
 go_wp2_with fail
 have hst0:=HK.out
 clear c0 c1 c2 c3 c4 f0 f1 f2 f3 f4 HK
 go_loopw [3] (fun t wr=> ∃k:Nat,t= .int .i64 (k:Nat)∧p+1≤k∧k≤s.size+1∧Tst b s w ⟨p,line,fl,0⟩ wr∧p+1+sc s[p] (s.data.toList.drop (p+1))=k+sc s[p] (s.data.toList.drop k)) (fun t _=>s.size+1 - (intOf t).toNat)
 case atStart=>exact⟨p+1,rfl,Nat.le_refl _,by omega,hst0,rfl⟩
 case round=>
  obtain⟨k,rfl,hpk,hk,hst,heq⟩:=hrel
  have HK:=hJ hst
  have HEQ:=hJ heq
  clear hst heq hst0
  obtain⟨c0,c1,c2,c3,c4,f0,f1,f2,f3,f4⟩:=RdAt.facts HK.out.rd
  obtain⟨G,hG⟩: ∃G,G=decide (∃h:k<s.size,s[k]≠s[p]∧s[k]≠10∧s[k]≠13):=⟨_,rfl⟩
  have HG:=hJ hG
  clear hG
  go_upto_region 2 with fail
  go_cut [57] from 14 to 56 (fun v wx=>v= .bool G∧Tst b s w ⟨p,line,fl,0⟩ wx)
  case first=>
   by_cases hlt:k<s.size
   ·by_cases h1:s[k]=s[p]
    · have b1:(((s[k].toNat:Nat):Int) !=((s[p].toNat:Nat):Int))=false:=by rw [bne_eq_false_iff_eq,h1]
      have HV:=hJ (show G=false by rw [HG.out];exact decide_eq_false (fun⟨_,h,_⟩=>h h1))
      clear h1
      go_quiet (fail)
      go_wp2_with fail
      go_meet
      exact⟨by rw [HV.out],HK.out.bel (aa3 (Below.refl _ _) _)⟩
    · have b1:(((s[k].toNat:Nat):Int) !=((s[p].toNat:Nat):Int))=true:=by rw [bne_iff_ne];exact fun e=>h1 (UInt8.toNat.inj (by omega))
      by_cases h2:s[k]=10
      · have b2:(((s[k].toNat:Nat):Int) !=10)=false:=by rw [bne_eq_false_iff_eq,h2];rfl
        have HV:=hJ (show G=false by rw [HG.out];exact decide_eq_false (fun⟨_,_,h,_⟩=>h h2))
        clear h1 h2
        go_quiet (fail)
        go_wp2_with fail
        go_meet
        exact⟨by rw [HV.out],HK.out.bel (aa3 (Below.refl _ _) _)⟩
      · have b2:(((s[k].toNat:Nat):Int) !=10)=true:=by rw [bne_iff_ne];exact fun e=>h2 (UInt8.toNat.inj (by rw [show s[k].toNat=10 by omega];rfl))
        by_cases h3:s[k]=13
        · have b3:(((s[k].toNat:Nat):Int) !=13)=false:=by rw [bne_eq_false_iff_eq,h3];rfl
          have HV:=hJ (show G=false by rw [HG.out];exact decide_eq_false (fun⟨_,_,_,h⟩=>h h3))
          clear h1 h2 h3
          go_quiet (fail)
          go_wp2_with fail
          go_meet
          exact⟨by rw [HV.out],HK.out.bel (aa3 (Below.refl _ _) _)⟩
        · have b3:(((s[k].toNat:Nat):Int) !=13)=true:=by rw [bne_iff_ne];exact fun e=>h3 (UInt8.toNat.inj (by rw [show s[k].toNat=13 by omega];rfl))
          have HV:=hJ (show G=true by rw [HG.out];exact decide_eq_true ⟨hlt,h1,h2,h3⟩)
          clear h1 h2 h3
          go_quiet (fail)
          go_wp2_with fail
          go_meet
          exact⟨by rw [HV.out],HK.out.bel (aa3 (Below.refl _ _) _)⟩
   ·have HV:=hJ (show G=false by rw [HG.out];exact decide_eq_false (fun⟨h,_⟩=>hlt h))
    go_quiet (fail)
    go_wp2_with fail
    go_meet
    exact⟨by rw [HV.out],HK.out.bel (aa3 (Below.refl _ _) _)⟩
  case rest=>
   obtain⟨rfl,hst⟩:=hcut
   clear c0 c1 c2 c3 c4 f0 f1 f2 f3 f4 HK
   have HK:=hJ hst
   clear hst
   obtain⟨c0,c1,c2,c3,c4,f0,f1,f2,f3,f4⟩:=RdAt.facts HK.out.rd
   cases hg:G with
   |true=>
    obtain⟨hlt,h1,h2,h3⟩:=of_decide_eq_true (HG.out.symm.trans hg)
    have hstep:=bp3 s[p] s[k] (s.data.toList.drop (k+1))
    rw [←ac5 s k hlt,if_neg (by rintro(h|h|h);exact h1 h;exact h2 h;exact h3 h),List.drop_drop,List.drop_drop] at hstep
    have heq:=HEQ.out
    rw [hstep] at heq
    clear HEQ HG h1 h2 h3 hstep
    subst hg
    by_cases h92:s[k]=92
    · rw [if_pos h92] at heq
      have b1:(((s[k].toNat:Nat):Int)==92)=true:=aq9 (show s[k]=92 from h92)
      have HQ:=hJ heq
      clear heq h92
      have hpl:=fun h=>ae1 (l:=s.data.toList.drop (k+1)) (p:= [13,10]) h
      rw [List.length_drop,ofl] at hpl
      have hh: ∀W,Calls Tryz.prog 31 #[.string (s.extract (min ((k:Int)+1) ((s.size:Nat):Int)).toNat s.size),.string ⟨#[13,10]⟩] W fun e w'=>e= .returned (.bool (Lib.hasPrefix (s.data.toList.drop (k+1)) [13,10]))∧w'=W:=fun W=>by
        rw [show (min ((k:Int)+1) ((s.size:Nat):Int)).toNat=k+1 by omega]
        have:=Tryz.strings_HasPrefix (s.extract (k+1) s.size) ⟨#[13,10]⟩ W
        rw [af9,show(ByteArray.mk #[13,10]).data.toList= [13,10] from rfl] at this
        exact this
      obtain⟨R,hR⟩: ∃R,Lib.hasPrefix (s.data.toList.drop (k+1)) [13,10]=R:=⟨_,rfl⟩
      rw [hR] at hh hpl
      have HQ2:=hJ (HQ.out.trans (by rw [hR]))
      have HH:=hJ hh
      clear hh HQ hR
      have hk1:k+1≤s.size:=by omega
      go_upto_region 5 with fail
      go_cut [79] from 67 to 78 (fun v wx=>v= .bool R∧Tst b s w ⟨p,line,fl,0⟩ wx)
      case first=>
        go_region_with (go_at_call 31;refine(HH.out _).mono ?_;rintro e w1 ⟨rfl,rfl⟩)
        all_goals go_wp2_with fail
        all_goals go_meet
        all_goals exact⟨rfl,HK.out.drew⟩
      case rest=>
        obtain⟨rfl,hst⟩:=hcut
        clear c0 c1 c2 c3 c4 f0 f1 f2 f3 f4 HK HH
        cases hr:R with
        |true=>
          have hpl2:=hpl hr
          simp at hpl2
          subst hr
          go_wp2_with fail
          go_roundw
          case rel=>exact⟨k+3,by go_num,by omega,by omega,hst,by rw [HQ2.out,if_pos rfl];simp only [Nat.add_assoc]⟩
          case measure=>simp [intOf];omega
        |false=>
          subst hr
          go_wp2_with fail
          go_roundw
          case rel=>exact⟨k+2,by go_num,by omega,by omega,hst,by rw [HQ2.out,if_neg (by decide)];simp only [Nat.add_assoc]⟩
          case measure=>simp [intOf];omega
    · rw [if_neg h92] at heq
      have b1:(((s[k].toNat:Nat):Int)==92)=false:=ap3 (show s[k]≠92 from h92)
      have HQ:=hJ heq
      clear heq h92
      go_wp2_with fail
      go_roundw
      case rel=>exact⟨k+1,by go_num,by omega,by omega,HK.out,by rw [HQ.out];omega⟩
      case measure=>simp [intOf];omega
   |false=>
    have hno:=of_decide_eq_false (HG.out.symm.trans hg)
    have hsc0:sc s[p] (s.data.toList.drop k)=0:=by
      by_cases hlt:k<s.size
      · rw [ac5 s k hlt,bp3,if_pos]
        by_cases h1:s[k]=s[p]
        · exact .inl h1
        · by_cases h2:s[k]=10
          · exact .inr (.inl h2)
          · by_cases h3:s[k]=13
            · exact .inr (.inr h3)
            · exact absurd ⟨hlt,h1,h2,h3⟩ hno
      · rw [List.drop_of_length_le (by rw [ofl];omega)]
        rfl
    have hkk:=HEQ.out
    rw [hsc0,Nat.add_zero] at hkk
    have hU1: ∀h:k<s.size,s[k]=s[p]→p+T=k+1:=by
      intro h e
      have e2: ∀j (hj:j<s.size),j=k→s[j]=s[p]:=by
        intro j hj e1
        subst e1
        exact e
      have:=HT1.out (by omega) (e2 _ (by omega) hkk)
      omega
    have hU2:(∀h:k<s.size,s[k]≠s[p])→p+T=min k s.size:=by
      intro h
      have e2: ∀j (hj:j<s.size),j=k→s[j]≠s[p]:=by
        intro j hj e1
        subst e1
        exact h hj
      have:=HT2.out (fun h1=>e2 _ h1 hkk)
      omega
    obtain⟨E,hE⟩: ∃E,E=decide (∃h:k<s.size,s[k]=s[p]):=⟨_,rfl⟩
    have hU3:E=true→k<s.size∧p+T=k+1:=fun h=>by
      obtain⟨h1,h2⟩:=of_decide_eq_true (hE.symm.trans h)
      exact⟨h1,hU1 h1 h2⟩
    have hU4:E=false→p+T=min k s.size:=fun h=>hU2 (fun h1 h2=>of_decide_eq_false (hE.symm.trans h) ⟨h1,h2⟩)
    have HU3:=hJ hU3
    have HU4:=hJ hU4
    have HG2:=hJ hE
    clear HT1 HT2 HEQ HG hno hsc0 hkk hU1 hU2 hU3 hU4 hE
    subst hg
    go_upto_region 9 with fail
    go_cut [116] from 91 to 115 (fun v wx=>v= .bool E∧Tst b s w ⟨p,line,fl,0⟩ wx)
    case first=>
      by_cases hlt:k<s.size
      · have hmk:min ((k:Nat):Int) ((s.size:Nat):Int)=k:=by omega
        by_cases h1:s[k]=s[p]
        · have b1:(((s[k].toNat:Nat):Int)==((s[p].toNat:Nat):Int))=true:=aq9 h1
          have HV:=hJ (show E=true by rw [HG2.out];exact decide_eq_true ⟨hlt,h1⟩)
          clear h1
          go_quiet (fail)
          go_wp2_with fail
          go_meet
          exact⟨by rw [HV.out],HK.out.bel (aa3 (Below.refl _ _) _)⟩
        · have b1:(((s[k].toNat:Nat):Int)==((s[p].toNat:Nat):Int))=false:=ap3 h1
          have HV:=hJ (show E=false by rw [HG2.out];exact decide_eq_false (fun⟨_,h⟩=>h1 h))
          clear h1
          go_quiet (fail)
          go_wp2_with fail
          go_meet
          exact⟨by rw [HV.out],HK.out.bel (aa3 (Below.refl _ _) _)⟩
      · have hmk:min ((k:Nat):Int) ((s.size:Nat):Int)=((s.size:Nat):Int):=by omega
        have HV:=hJ (show E=false by rw [HG2.out];exact decide_eq_false (fun⟨h,_⟩=>hlt h))
        go_quiet (fail)
        go_wp2_with fail
        go_meet
        exact⟨by rw [HV.out],HK.out.bel (aa3 (Below.refl _ _) _)⟩
    case rest=>
     obtain⟨rfl,hst⟩:=hcut
     clear c0 c1 c2 c3 c4 f0 f1 f2 f3 f4 HK HG2
     have HK:=hJ hst
     clear hst
     obtain⟨c0,c1,c2,c3,c4,f0,f1,f2,f3,f4⟩:=RdAt.facts HK.out.rd
     go_upto_if 116 with fail
     go_cut [3] from 117 to 118 (fun v wx=>v= .int .i64 ((p+T:Nat):Int)∧Tst b s w ⟨p,line,fl,0⟩ wx)
     case first=>
      cases hE:E with
      |true=>
        obtain⟨hlt,hV⟩:=HU3.out hE
        have HV:=hJ hV
        clear hV
        subst hE
        go_wp2_with fail
        go_meet
        exact⟨by rw [HV.out];congr 1;omega,HK.out⟩
      |false=>
        have HV:=hJ (HU4.out hE)
        subst hE
        go_wp2_with fail
        go_meet
        exact⟨by rw [HV.out];congr 1;omega,HK.out⟩
     case rest=>
       obtain⟨rfl,hst⟩:=hcut
       clear c0 c1 c2 c3 c4 f0 f1 f2 f3 f4 HK HU3 HU4
       have HK:=hJ hst
       clear hst
       obtain⟨c0,c1,c2,c3,c4,f0,f1,f2,f3,f4⟩:=RdAt.facts HK.out.rd
       have hTs:=HT3.out
       go_upto_region 11 with fail
       go_cut [4,5] from 119 to 133 (fun u v wx=>u= .int .i64 A1∧v= .int .i64 E1∧Tst b s w ⟨p,line,fl,0⟩ wx)
       case first=>
         go_region_with (go_at_call 169;refine(HCK.out _ (HK.out.drew.rdy.tabs)).mono ?_;rintro e w1 ⟨rfl,hb1⟩)
         all_goals go_wp2_with fail
         all_goals go_meet
         all_goals exact⟨rfl,rfl,HK.out.drew.bel hb1⟩
       case rest=>
         obtain⟨rfl,rfl,hst⟩:=hcut
         clear c0 c1 c2 c3 c4 f0 f1 f2 f3 f4 HK HCK
         have HK:=hJ hst
         clear hst
         obtain⟨c0,c1,c2,c3,c4,f0,f1,f2,f3,f4⟩:=RdAt.facts HK.out.rd
         cases hf:f with
         |true=>
           have HN:=hJ (show O= .fine 4 T by rw [HTX.out,if_pos hf])
           obtain rfl:E1=0:=by rw [←HE1.out,hf];rfl
           clear HA1 HE1
           clear HTX
           subst hf
           have hk1:=HK.out.setRd (y:=⟨p+T,line,fl,0⟩) 0 (.int .i64 ((p+T:Nat):Int)) rfl hTs
           go_wp2_with fail
           go_ret
           rw [HN.out]
           exact⟨rfl,hk1⟩
         |false=>
           have HN0:=hJ (show O=if a<T∧(nx (s.data.toList.drop (p+a))).2<0 then .bad a 502 else .bad a 504 by rw [HTX.out,if_neg (by rw [hf];decide)])
           obtain rfl:E1=300:=by rw [←HE1.out,hf];rfl
           obtain rfl:A1=(a:Int):=by rw [←HA1.out,hf];rfl
           clear HA1 HE1
           clear HTX
           subst hf
           have hNx:=fun W h z hz=>aB7 s (p+a) W ha h z hz
           generalize hc2:(nx (s.data.toList.drop (p+a))).1=cx at*
           generalize hn2:(nx (s.data.toList.drop (p+a))).2=n2 at*
           have HNx:=hJ hNx
           clear hNx hc2 hn2
           go_upto_region 17 with (go_at_call 162;refine(HNx.out _ HK.out.rdy.tabs _ (by omega)).mono ?_;rintro e w9 ⟨rfl,hb⟩;clear c0 c1 c2 c3 c4 f0 f1 f2 f3 f4;replace HK:=hJ (HK.out.bel hb);clear hb;obtain⟨c0,c1,c2,c3,c4,f0,f1,f2,f3,f4⟩:=RdAt.facts HK.out.rd)
           by_cases haT2:a<T
           · by_cases hn:n2<0
             · have HN:=hJ (show O= .bad a 502 by rw [HN0.out,if_pos ⟨haT2,hn⟩])
               clear HN0
               go_wp2_with (go_at_call 99;refine(ae5 b s _ _ _ _ HK.out.rd).mono ?_;rintro e w9 ⟨rfl,hx9,hb9⟩;clear c0 c1 c2 c3 c4 f0 f1 f2 f3 f4;replace HK:=hJ (HK.out.step hx9 hb9 hle);clear hx9 hb9;obtain⟨c0,c1,c2,c3,c4,f0,f1,f2,f3,f4⟩:=RdAt.facts HK.out.rd)
               go_ret
               rw [HN.out]
               exact⟨_,rfl,HK.out,rfl,by simp only;omega,rfl⟩
             · have HN:=hJ (show O= .bad a 504 by rw [HN0.out,if_neg (fun h=>hn h.2)])
               clear HN0
               go_wp2_with (go_at_call 99;refine(ae5 b s _ _ _ _ HK.out.rd).mono ?_;rintro e w9 ⟨rfl,hx9,hb9⟩;clear c0 c1 c2 c3 c4 f0 f1 f2 f3 f4;replace HK:=hJ (HK.out.step hx9 hb9 hle);clear hx9 hb9;obtain⟨c0,c1,c2,c3,c4,f0,f1,f2,f3,f4⟩:=RdAt.facts HK.out.rd)
               go_ret
               rw [HN.out]
               exact⟨_,rfl,HK.out,rfl,by simp only;omega,rfl⟩
           · have HN:=hJ (show O= .bad a 504 by rw [HN0.out,if_neg (fun h=>haT2 h.1)])
             clear HN0
             go_wp2_with (go_at_call 99;refine(ae5 b s _ _ _ _ HK.out.rd).mono ?_;rintro e w9 ⟨rfl,hx9,hb9⟩;clear c0 c1 c2 c3 c4 f0 f1 f2 f3 f4;replace HK:=hJ (HK.out.step hx9 hb9 hle);clear hx9 hb9;obtain⟨c0,c1,c2,c3,c4,f0,f1,f2,f3,f4⟩:=RdAt.facts HK.out.rd)
             go_ret
             rw [HN.out]
             exact⟨_,rfl,HK.out,rfl,by simp only;omega,rfl⟩
end
section
open Go.RowKit
def bh9 (b:Nat) (s:ByteArray) (p:Nat) (line:Bool) (fl:Int) (w:World) (o:TpO) (e:Ending) (w':World):Prop:=match o with
 | .fine n _=>e= .returned (.bool true)∧Tst b s w ⟨p+1+n,line,fl,0⟩ w'
 | .bad off code=> ∃x':Rd,e= .returned (.bool false)∧Tst b s w x' w'∧x'.line=line∧x'.fail=as2 p off code∧x'.code=code
def bL3 (b:Nat) (s:ByteArray) (p:Nat) (line:Bool) (fl:Int) (w:World) (v:Value) (wr:World):Prop:=
 ∃(k:Nat) (cls:Bool),p+1≤k∧v= .bool cls∧Tst b s w ⟨k,line,fl,0⟩ wr∧rgx true false (s.data.toList.drop (p+1))=(rgx (decide (k=p+1)) cls (s.data.toList.drop k)).shift (k - (p+1))
theorem bo9 (b:Nat) (s:ByteArray) (p:Nat) (line:Bool) (fl:Int) (w:World) (hx:RdAt w b s ⟨p,line,fl,0⟩) (hr:ae6 b w) (hs:s.size≤16777216) (hp:p<s.size):
  Calls Tryz.prog 105 #[.pointer (some ⟨b,0,none⟩)] w fun e w'=>bh9 b s p line fl w (rgx true false (s.data.toList.drop (p+1))) e w':=by
 have hk0:Tst b s w ⟨p,line,fl,0⟩ w:=⟨hx,But.refl _ _,hr,Nat.le_of_lt hp⟩
 have hk:=hk0.setRd (y:=⟨p+1,line,fl,0⟩) 0 (.int .i64 ((p:Int)+1)) rfl (show p+1≤s.size by omega)
 obtain⟨c0,c1,c2,c3,c4,f0,f1,f2,f3,f4⟩:=RdAt.facts hx
 clear hx hr
 go_enter Tryz.func105,Tryz.ntmps105
 go_wp2
 go_loopw [2,4,5,6,7,8] (fun _ v _ _ _ _ wr=>bL3 b s p line fl w v wr) (fun _ _ _ _ _ _ wr=>s.size - aU1 wr b)
 case atStart=>exact⟨p+1,false,Nat.le_refl _,rfl,hk,by rw [Nat.sub_self,TpO.shift_zero,decide_eq_true rfl]⟩
 case round=>
  obtain⟨k,cls,hpk,rfl,hst,heq⟩:=hrel
  have hle:=hst.le
  simp only at hle
  have hstep:=by4 (decide (k=p+1)) cls (s.data.toList.drop k)
  rw [hstep] at heq
  have HPOS:=hJ hst.rd.pos
  have hnx:=fun W hx hr=>af4 b s ⟨k,line,fl,0⟩ W hx hr hle
  have hends:=fun W=>aK8 (nx (s.data.toList.drop k)).1 W
  have HK:=hJ hst
  have HEQ:=hJ heq
  have HNX:=hJ hnx
  have HEN:=hJ hends
  clear hst heq hstep hnx hends hk hk0 c0 c1 c2 c3 c4 f0 f1 f2 f3 f4
  simp only at HNX
  generalize he:at6 (nx (s.data.toList.drop k)).1=ed at*
  generalize hc:(nx (s.data.toList.drop k)).1=c at*
  generalize hn:(nx (s.data.toList.drop k)).2=n at*
  have HE:=hJ he
  have HC:=hJ hc
  have HNN:=hJ hn
  have HNEG:=hJ (show n<0→c=0 from fun h=>by have:=(bn0 (l:=s.data.toList.drop k) (by rw [hn];exact h)).1;rw [this] at hc;exact hc.symm)
  have HPZ:=hJ (show 0≤n→∃m:Nat,n=m∧m≤s.size - k from fun h=>by
   obtain⟨m,h1,h2,_⟩:=aj0 (l:=s.data.toList.drop k) (by rw [hn];exact h)
   rw [List.length_drop,ofl] at h2
   exact⟨m,hn.symm.trans h1,h2⟩)
  clear he hc hn
  obtain⟨c0,c1,c2,c3,c4,f0,f1,f2,f3,f4⟩:=RdAt.facts HK.out.rd
  go_upto_region 5 with (go_at_call 90;refine(HNX.out _ HK.out.rd HK.out.rdy).mono ?_;rintro e w9 ⟨rfl,hb⟩;clear c0 c1 c2 c3 c4 f0 f1 f2 f3 f4;replace HK:=hJ (HK.out.bel hb);clear hb;obtain⟨c0,c1,c2,c3,c4,f0,f1,f2,f3,f4⟩:=RdAt.facts HK.out.rd)
  obtain⟨B,hB⟩: ∃B,B=decide (n=0∨(0<n∧ed=true)∨(decide (k=p+1)=true∧(c=42∨c=47))):=⟨_,rfl⟩
  have HB:=hJ hB
  clear hB
  go_cut [30] from 31 to 58 (fun v wx=>v= .bool B∧Tst b s w ⟨k,line,fl,0⟩ wx)
  case first=>
   have HN0:=hJ HNEG.out
   clear HEQ HPZ HNEG HNX
   by_cases hz:n=0
   ·have HV:=hJ (show B=true by rw [HB.out];exact decide_eq_true (.inl hz))
    subst hz
    go_wp2_with fail
    go_meet
    exact⟨by rw [HV.out],HK.out⟩
   ·have bz:(n==0)=false:=beq_eq_false_iff_ne.2 hz
    by_cases hn0:0<n
    ·cases hed:ed with
     |true=>
      have HV:=hJ (show B=true by rw [HB.out];exact decide_eq_true (.inr (.inl ⟨hn0,hed⟩)))
      rw [hed] at HEN
      go_wp2_with (go_at_call 91;refine(HEN.out _).mono ?_;rintro e w9 ⟨rfl,hb⟩;clear c0 c1 c2 c3 c4 f0 f1 f2 f3 f4;replace HK:=hJ (HK.out.bel hb);clear hb;obtain⟨c0,c1,c2,c3,c4,f0,f1,f2,f3,f4⟩:=RdAt.facts HK.out.rd)
      go_meet
      exact⟨by rw [HV.out],HK.out⟩
     |false=>
      rw [hed] at HEN
      by_cases hk1:k=p+1
      ·have b1:(((k:Nat):Int)==(p:Int)+1)=true:=by rw [beq_iff_eq];omega
       by_cases h42:c=42
       ·have HV:=hJ (show B=true by rw [HB.out];exact decide_eq_true (.inr (.inr ⟨decide_eq_true hk1,.inl h42⟩)))
        clear hk1
        subst h42
        go_wp2_with (go_at_call 91;refine(HEN.out _).mono ?_;rintro e w9 ⟨rfl,hb⟩;clear c0 c1 c2 c3 c4 f0 f1 f2 f3 f4;replace HK:=hJ (HK.out.bel hb);clear hb;obtain⟨c0,c1,c2,c3,c4,f0,f1,f2,f3,f4⟩:=RdAt.facts HK.out.rd)
        go_meet
        exact⟨by rw [HV.out],HK.out⟩
       ·by_cases h47:c=47
        ·have HV:=hJ (show B=true by rw [HB.out];exact decide_eq_true (.inr (.inr ⟨decide_eq_true hk1,.inr h47⟩)))
         clear hk1
         subst h47
         go_wp2_with (go_at_call 91;refine(HEN.out _).mono ?_;rintro e w9 ⟨rfl,hb⟩;clear c0 c1 c2 c3 c4 f0 f1 f2 f3 f4;replace HK:=hJ (HK.out.bel hb);clear hb;obtain⟨c0,c1,c2,c3,c4,f0,f1,f2,f3,f4⟩:=RdAt.facts HK.out.rd)
         go_meet
         exact⟨by rw [HV.out],HK.out⟩
        ·have HV:=hJ (show B=false by rw [HB.out];refine decide_eq_false ?_;rintro(h|⟨_,h⟩|⟨_,h|h⟩);exact hz h;rw [hed] at h;cases h;exact h42 h;exact h47 h)
         have b2:(c==42)=false:=by rw [beq_eq_false_iff_ne];exact h42
         have b3:(c==47)=false:=by rw [beq_eq_false_iff_ne];exact h47
         clear hk1 h42 h47
         go_wp2_with (go_at_call 91;refine(HEN.out _).mono ?_;rintro e w9 ⟨rfl,hb⟩;clear c0 c1 c2 c3 c4 f0 f1 f2 f3 f4;replace HK:=hJ (HK.out.bel hb);clear hb;obtain⟨c0,c1,c2,c3,c4,f0,f1,f2,f3,f4⟩:=RdAt.facts HK.out.rd)
         go_meet
         exact⟨by rw [HV.out],HK.out⟩
      ·have HV:=hJ (show B=false by rw [HB.out];refine decide_eq_false ?_;rintro(h|⟨_,h⟩|⟨h,_⟩);exact hz h;rw [hed] at h;cases h;exact hk1 (of_decide_eq_true h))
       have b1:(((k:Nat):Int)==(p:Int)+1)=false:=by rw [beq_eq_false_iff_ne];omega
       clear hk1
       go_wp2_with (go_at_call 91;refine(HEN.out _).mono ?_;rintro e w9 ⟨rfl,hb⟩;clear c0 c1 c2 c3 c4 f0 f1 f2 f3 f4;replace HK:=hJ (HK.out.bel hb);clear hb;obtain⟨c0,c1,c2,c3,c4,f0,f1,f2,f3,f4⟩:=RdAt.facts HK.out.rd)
       go_meet
       exact⟨by rw [HV.out],HK.out⟩
    ·by_cases hk1:k=p+1
     ·have b1:(((k:Nat):Int)==(p:Int)+1)=true:=by rw [beq_iff_eq];omega
      have HV:=hJ (show B=false by rw [HB.out];refine decide_eq_false ?_;rintro(h|⟨h,_⟩|⟨_,h|h⟩);exact hz h;exact hn0 h;have:=HN0.out (by omega);omega;have:=HN0.out (by omega);omega)
      have hc0:=HN0.out (by omega)
      clear hk1
      subst hc0
      go_wp2_with fail
      go_meet
      exact⟨by rw [HV.out],HK.out⟩
     ·have b1:(((k:Nat):Int)==(p:Int)+1)=false:=by rw [beq_eq_false_iff_ne];omega
      have HV:=hJ (show B=false by rw [HB.out];refine decide_eq_false ?_;rintro(h|⟨h,_⟩|⟨h,_⟩);exact hz h;exact hn0 h;exact hk1 (of_decide_eq_true h))
      clear hk1
      go_wp2_with fail
      go_meet
      exact⟨by rw [HV.out],HK.out⟩
  case rest=>
   obtain⟨rfl,hst⟩:=hcut
   clear c0 c1 c2 c3 c4 f0 f1 f2 f3 f4 HK HNX HEN HE
   have HK:=hJ hst
   clear hst
   obtain⟨c0,c1,c2,c3,c4,f0,f1,f2,f3,f4⟩:=RdAt.facts HK.out.rd
   cases hb:B with
   |true=>
    have HN:=hJ (show rgx true false (s.data.toList.drop (p+1))= .bad (k - (p+1)) 506 by rw [HEQ.out,if_pos (of_decide_eq_true (HB.out.symm.trans hb))];rfl)
    clear HEQ HB
    subst hb
    go_wp2_with (go_at_call 99;refine(ae5 b s _ _ _ _ HK.out.rd).mono ?_;rintro e w9 ⟨rfl,hx9,hb9⟩;clear c0 c1 c2 c3 c4 f0 f1 f2 f3 f4;replace HK:=hJ (HK.out.step hx9 hb9 hle);clear hx9 hb9;obtain⟨c0,c1,c2,c3,c4,f0,f1,f2,f3,f4⟩:=RdAt.facts HK.out.rd)
    go_ret
    rw [HN.out]
    exact⟨_,rfl,HK.out,rfl,rfl,rfl⟩
   |false=>
    have hbad:=of_decide_eq_false (HB.out.symm.trans hb)
    have HQ0:=hJ (HEQ.out.trans (by rw [if_neg hbad]))
    have hz:n≠0:=fun h=>hbad (.inl h)
    clear HEQ HB hbad
    subst hb
    by_cases hneg:n<0
    ·obtain rfl:=HNEG.out hneg
     have HN:=hJ (show rgx true false (s.data.toList.drop (p+1))= .bad (k - (p+1)) 502 by
      have h:=HQ0.out
      rw [if_neg (by rintro⟨h,_⟩;omega),if_neg (by rintro⟨h,_⟩;omega)] at h
      simp only [show escC 0=0 from rfl,List.drop_zero] at h
      rw [HNN.out,if_pos (by omega)] at h
      exact h)
     have HG:=hJ (show(nx (s.data.toList.drop k)).2<0 by rw [HNN.out];exact hneg)
     clear HNN HNEG HQ0 HPZ hneg hz
     go_wp2_with (go_at_call 96;refine(aB8 b s _ _ HK.out.rd HK.out.rdy HK.out.le HG.out).mono ?_;rintro e w9 ⟨rfl,hx9,hb9⟩;clear c0 c1 c2 c3 c4 f0 f1 f2 f3 f4;replace HK:=hJ (HK.out.step hx9 hb9 HK.out.le);clear hx9 hb9;obtain⟨c0,c1,c2,c3,c4,f0,f1,f2,f3,f4⟩:=RdAt.facts HK.out.rd)
     go_ret
     rw [HN.out]
     exact⟨_,rfl,HK.out,rfl,by unfold as2;rw [if_pos rfl];simp only;omega,rfl⟩
    ·obtain⟨m,rfl,hm1⟩:=HPZ.out (by omega)
     have hqn:k+m≤s.size:=by omega
     have hm0:0<m:=by omega
     clear HNEG HPZ
     by_cases h47:c=47∧cls=false
     ·obtain⟨rfl,rfl⟩:=h47
      have HN:=hJ (show rgx true false (s.data.toList.drop (p+1))= .fine (k - (p+1)+(1+ae9 false (s.data.toList.drop (k+1)))) false by rw [HQ0.out,if_pos ⟨rfl,rfl⟩,List.drop_drop];rfl)
      have hq:k+1≤s.size:=by omega
      clear HNN HQ0 HC
      go_upto_region 8 with fail
      have hk1:=HK.out.setRd (y:=⟨k+1,line,fl,0⟩) 0 (.int .i64 ((k:Int)+1)) rfl hq
      go_upto_region 9 with fail
      clear c0 c1 c2 c3 c4 f0 f1 f2 f3 f4 HK
      generalize World.setCell _ _ _=w6 at*
      have HK:=hJ hk1
      clear hk1
      obtain⟨c0,c1,c2,c3,c4,f0,f1,f2,f3,f4⟩:=RdAt.facts HK.out.rd
      have HNX1:=hJ (fun W hx hr=>af4 b s ⟨k+1,line,fl,0⟩ W hx hr hq)
      simp only at HNX1
      go_upto_region 10 with (go_at_call 90;refine(HNX1.out _ HK.out.rd HK.out.rdy).mono ?_;rintro e w9 ⟨rfl,hb⟩;clear c0 c1 c2 c3 c4 f0 f1 f2 f3 f4;replace HK:=hJ (HK.out.bel hb);clear hb;obtain⟨c0,c1,c2,c3,c4,f0,f1,f2,f3,f4⟩:=RdAt.facts HK.out.rd)
      clear HNX1
      have hst0:=HK.out
      clear c0 c1 c2 c3 c4 f0 f1 f2 f3 f4 HK
      go_loopw [7,8] (fun cv nv wr=> ∃q:Nat,k+1≤q∧cv= .int .i64 (nx (s.data.toList.drop q)).1∧nv= .int .i64 (nx (s.data.toList.drop q)).2∧Tst b s w ⟨q,line,fl,0⟩ wr∧q+ae9 false (s.data.toList.drop q)=k+1+ae9 false (s.data.toList.drop (k+1))) (fun _ _ wr=>s.size - aU1 wr b)
      case atStart=>exact⟨k+1,Nat.le_refl _,rfl,rfl,hst0,rfl⟩
      case round=>
       clear hst0
       obtain⟨q,hkq,rfl,rfl,hst,heq⟩:=hrel
       have HPOS2:=hJ hst.rd.pos
       have hle2:=hst.le
       simp only at hle2
       have HK:=hJ hst
       clear hst
       cases hg:ap0 false (s.data.toList.drop q) with
       |true=>
        have hy:=as4 hg
        obtain⟨a,ha,ha0,hal,ha4⟩:=an6 hg
        rw [List.length_drop,ofl] at hal
        rw [ha,Int.toNat_natCast,List.drop_drop] at hy
        unfold ap0 at hg
        simp only [Bool.and_eq_true,Bool.or_eq_true,decide_eq_true_eq,Bool.false_eq_true,false_and,or_false] at hg
        have HNX:=hJ (fun W hx hr=>af4 b s ⟨q+a,line,fl,0⟩ W hx hr (by simp only;omega))
        simp only at HNX
        have HEQ:=hJ (show(q+a)+ae9 false (s.data.toList.drop (q+a))=k+1+ae9 false (s.data.toList.drop (k+1)) by omega)
        have hP:=fun W=>aw6 (nx (s.data.toList.drop q)).1 W
        rw [hg.2] at hP
        rw [ha]
        generalize hc1:(nx (s.data.toList.drop q)).1=c1 at*
        have HP:=hJ hP
        have hqa:q+a≤s.size:=by omega
        clear hg hy heq ha hc1 hP
        obtain⟨c0,c1,c2,c3,c4,f0,f1,f2,f3,f4⟩:=RdAt.facts HK.out.rd
        go_upto_region 12 with (go_at_call 167;refine(HP.out _).mono ?_;rintro e w9 ⟨rfl,hb⟩;clear c0 c1 c2 c3 c4 f0 f1 f2 f3 f4;replace HK:=hJ (HK.out.bel hb);clear hb;obtain⟨c0,c1,c2,c3,c4,f0,f1,f2,f3,f4⟩:=RdAt.facts HK.out.rd)
        go_upto_region 11 with fail
        have hk1:=HK.out.setRd (y:=⟨q+a,line,fl,0⟩) 0 (.int .i64 ((q:Int)+(a:Int))) rfl hqa
        clear c0 c1 c2 c3 c4 f0 f1 f2 f3 f4 HK
        generalize World.setCell _ _ _=w7 at*
        have HK:=hJ hk1
        clear hk1
        obtain⟨c0,c1,c2,c3,c4,f0,f1,f2,f3,f4⟩:=RdAt.facts HK.out.rd
        go_wp2_with (go_at_call 90;refine(HNX.out _ HK.out.rd HK.out.rdy).mono ?_;rintro e w9 ⟨rfl,hb⟩;clear c0 c1 c2 c3 c4 f0 f1 f2 f3 f4;replace HK:=hJ (HK.out.bel hb);clear hb;obtain⟨c0,c1,c2,c3,c4,f0,f1,f2,f3,f4⟩:=RdAt.facts HK.out.rd)
        go_roundw
        case rel=>exact⟨q+a,by omega,rfl,rfl,HK.out,HEQ.out⟩
        case measure=>rw [HK.out.rd.pos,HPOS2.out];simp only;omega
       |false=>
        have hno:=aE9 hg
        have HEQ:=hJ (show q=k+1+ae9 false (s.data.toList.drop (k+1)) by omega)
        unfold ap0 at hg
        generalize (nx (s.data.toList.drop q)).1=cc at*
        generalize (nx (s.data.toList.drop q)).2=n1 at*
        clear hno heq
        obtain⟨c0,c1,c2,c3,c4,f0,f1,f2,f3,f4⟩:=RdAt.facts HK.out.rd
        by_cases hn1:0<n1
        ·rw [decide_eq_true hn1,Bool.true_and,Bool.or_eq_false_iff] at hg
         have hP:=fun W=>aw6 cc W
         rw [hg.1] at hP
         have HP:=hJ hP
         clear hP hg
         go_wp2_with (go_at_call 167;refine(HP.out _).mono ?_;rintro e w9 ⟨rfl,hb⟩;clear c0 c1 c2 c3 c4 f0 f1 f2 f3 f4;replace HK:=hJ (HK.out.bel hb);clear hb;obtain⟨c0,c1,c2,c3,c4,f0,f1,f2,f3,f4⟩:=RdAt.facts HK.out.rd)
         go_ret
         rw [HN.out]
         refine⟨rfl,?_⟩
         rw [show p+1+(k - (p+1)+(1+ae9 false (s.data.toList.drop (k+1))))=q by have:=HEQ.out;omega]
         exact HK.out
        ·clear hg
         go_wp2_with fail
         go_ret
         rw [HN.out]
         refine⟨rfl,?_⟩
         rw [show p+1+(k - (p+1)+(1+ae9 false (s.data.toList.drop (k+1))))=q by have:=HEQ.out;omega]
         exact HK.out
     ·by_cases h92:c=92
      ·subst h92
       clear h47
       have HQ1:=hJ (show rgx true false (s.data.toList.drop (p+1))=_ from HQ0.out.trans (by rw [if_neg (by rintro⟨h,_⟩;omega)]))
       have hq:k+1≤s.size:=by omega
       clear HQ0 HNN HC
       have hnx:=fun W hx hr=>af4 b s ⟨k+1,line,fl,0⟩ W hx hr hq
       have hends:=fun W=>aK8 (nx (s.data.toList.drop (k+1))).1 W
       have hq2:=HQ1.out
       simp only [show escC 92=1 from rfl,show clsN 92 cls=cls from rfl,List.drop_drop] at hq2
       have hpz:=fun h=>aj0 (l:=s.data.toList.drop (k+1)) h
       rw [List.length_drop,ofl] at hpz
       generalize hed2:at6 (nx (s.data.toList.drop (k+1))).1=e2 at*
       generalize hc2:(nx (s.data.toList.drop (k+1))).1=cx at*
       generalize hn2:(nx (s.data.toList.drop (k+1))).2=n2 at*
       have HQ2:=hJ hq2
       have HNX1:=hJ hnx
       have HEN:=hJ hends
       have HPZ2:=hJ hpz
       have HN2:=hJ hn2
       clear hq2 hnx hends hpz hed2 hc2 hn2 HQ1
       go_upto_region 19 with fail
       have hk1:=HK.out.setRd (y:=⟨k+1,line,fl,0⟩) 0 (.int .i64 ((k:Int)+1)) rfl hq
       go_upto_region 20 with fail
       clear c0 c1 c2 c3 c4 f0 f1 f2 f3 f4 HK
       generalize World.setCell _ _ _=w6 at*
       have HK:=hJ hk1
       clear hk1
       obtain⟨c0,c1,c2,c3,c4,f0,f1,f2,f3,f4⟩:=RdAt.facts HK.out.rd
       go_upto_region 21 with (go_at_call 90;refine(HNX1.out _ HK.out.rd HK.out.rdy).mono ?_;rintro e w9 ⟨rfl,hb⟩;clear c0 c1 c2 c3 c4 f0 f1 f2 f3 f4;replace HK:=hJ (HK.out.bel hb);clear hb;obtain⟨c0,c1,c2,c3,c4,f0,f1,f2,f3,f4⟩:=RdAt.facts HK.out.rd)
       clear HNX1
       by_cases hz2:n2=0
       ·have HN:=hJ (show rgx true false (s.data.toList.drop (p+1))= .bad (k - (p+1)+1) 506 by rw [HQ2.out,if_pos ⟨trivial,.inl hz2⟩];rfl)
        clear HQ2 HPZ2 HN2
        subst hz2
        go_wp2_with (go_at_call 99;refine(ae5 b s _ _ _ _ HK.out.rd).mono ?_;rintro e w9 ⟨rfl,hx9,hb9⟩;clear c0 c1 c2 c3 c4 f0 f1 f2 f3 f4;replace HK:=hJ (HK.out.step hx9 hb9 hq);clear hx9 hb9;obtain⟨c0,c1,c2,c3,c4,f0,f1,f2,f3,f4⟩:=RdAt.facts HK.out.rd)
        go_ret
        rw [HN.out]
        exact⟨_,rfl,HK.out,rfl,rfl,rfl⟩
       ·by_cases hpos2:0<n2
        ·cases he2:e2 with
         |true=>
          have HN:=hJ (show rgx true false (s.data.toList.drop (p+1))= .bad (k - (p+1)+1) 506 by rw [HQ2.out,if_pos ⟨trivial,.inr ⟨hpos2,he2⟩⟩];rfl)
          rw [he2] at HEN
          clear HQ2 HPZ2 HN2
          go_wp2_with (first|(go_at_call 91;refine(HEN.out _).mono ?_;rintro e w9 ⟨rfl,hb⟩;clear c0 c1 c2 c3 c4 f0 f1 f2 f3 f4;replace HK:=hJ (HK.out.bel hb);clear hb;obtain⟨c0,c1,c2,c3,c4,f0,f1,f2,f3,f4⟩:=RdAt.facts HK.out.rd)|(go_at_call 99;refine(ae5 b s _ _ _ _ HK.out.rd).mono ?_;rintro e w9 ⟨rfl,hx9,hb9⟩;clear c0 c1 c2 c3 c4 f0 f1 f2 f3 f4;replace HK:=hJ (HK.out.step hx9 hb9 hq);clear hx9 hb9;obtain⟨c0,c1,c2,c3,c4,f0,f1,f2,f3,f4⟩:=RdAt.facts HK.out.rd))
          go_ret
          rw [HN.out]
          exact⟨_,rfl,HK.out,rfl,rfl,rfl⟩
         |false=>
          obtain⟨a,rfl,ha1,_⟩:=HPZ2.out (by omega)
          have hqn:k+1+a≤s.size:=by omega
          have HN:=hJ (show rgx true false (s.data.toList.drop (p+1))=(rgx (decide (k+1+a=p+1)) cls (s.data.toList.drop (k+1+a))).shift (k+1+a - (p+1)) by
           rw [HQ2.out,if_neg (by rintro⟨_,h|⟨_,h⟩⟩;exact hz2 h;rw [he2] at h;cases h),if_neg (by omega),TpO.shift_shift,Int.toNat_natCast,decide_eq_false (show¬k+1+a=p+1 by omega),show k - (p+1)+(1+a)=k+1+a - (p+1) by omega,show k+(1+a)=k+1+a by omega])
          have HG:=hJ (show(nx (s.data.toList.drop (k+1))).2=(a:Int) by rw [HN2.out])
          have hd:decide (0<a)=true:=decide_eq_true (by omega)
          rw [he2] at HEN
          clear HQ2 HPZ2 HN2
          go_wp2_with (first|(go_at_call 91;refine(HEN.out _).mono ?_;rintro e w9 ⟨rfl,hb⟩;clear c0 c1 c2 c3 c4 f0 f1 f2 f3 f4;replace HK:=hJ (HK.out.bel hb);clear hb;obtain⟨c0,c1,c2,c3,c4,f0,f1,f2,f3,f4⟩:=RdAt.facts HK.out.rd)|(go_at_call 96;refine(ai5 b s _ _ _ HK.out.rd HK.out.rdy hs HK.out.le HG.out).mono ?_;rintro e w9 ⟨rfl,hx9,hb9⟩;clear c0 c1 c2 c3 c4 f0 f1 f2 f3 f4;replace HK:=hJ (HK.out.step hx9 hb9 hqn);clear hx9 hb9;obtain⟨c0,c1,c2,c3,c4,f0,f1,f2,f3,f4⟩:=RdAt.facts HK.out.rd))
          go_roundw
          case rel=>exact⟨k+1+a,cls,by omega,rfl,HK.out,HN.out⟩
          case measure=>rw [HK.out.rd.pos,HPOS.out];simp only;omega
        ·have HN:=hJ (show rgx true false (s.data.toList.drop (p+1))= .bad (k - (p+1)+1) 502 by rw [HQ2.out,if_neg (by rintro⟨_,h|⟨h,_⟩⟩;exact hz2 h;exact hpos2 h),if_pos (by omega)];rfl)
         have HG:=hJ (show(nx (s.data.toList.drop (k+1))).2<0 by rw [HN2.out];omega)
         clear HQ2 HPZ2 HN2
         go_wp2_with (go_at_call 96;refine(aB8 b s _ _ HK.out.rd HK.out.rdy HK.out.le HG.out).mono ?_;rintro e w9 ⟨rfl,hx9,hb9⟩;clear c0 c1 c2 c3 c4 f0 f1 f2 f3 f4;replace HK:=hJ (HK.out.step hx9 hb9 HK.out.le);clear hx9 hb9;obtain⟨c0,c1,c2,c3,c4,f0,f1,f2,f3,f4⟩:=RdAt.facts HK.out.rd)
         go_ret
         rw [HN.out]
         exact⟨_,rfl,HK.out,rfl,by unfold as2;rw [if_pos rfl];simp only;omega,rfl⟩
      ·have HN0:=hJ (show rgx true false (s.data.toList.drop (p+1))=(rgx (decide (k+m=p+1)) (clsN c cls) (s.data.toList.drop (k+m))).shift (k+m - (p+1)) by
        have h:=HQ0.out
        rw [if_neg h47,if_neg (fun h=>h92 h.1)] at h
        simp only [show escC c=0 from if_neg h92,List.drop_drop,Nat.add_zero,Nat.zero_add] at h
        rw [HNN.out,if_neg (by omega),TpO.shift_shift,Int.toNat_natCast] at h
        rw [h,decide_eq_false (show¬k+m=p+1 by omega),show k - (p+1)+m=k+m - (p+1) by omega])
       have HG:=hJ (show(nx (s.data.toList.drop k)).2=(m:Int) from HNN.out)
       have hd:decide (0<m)=true:=decide_eq_true hm0
       have b92:(c==92)=false:=by rw [beq_eq_false_iff_ne];exact h92
       clear HNN HQ0 HC
       by_cases h91:c=91
       ·subst h91
        have HN:=hJ (show rgx true false (s.data.toList.drop (p+1))=(rgx (decide (k+m=p+1)) true (s.data.toList.drop (k+m))).shift (k+m - (p+1)) from HN0.out)
        clear h47 h92 HN0 b92
        go_wp2_with (go_at_call 96;refine(ai5 b s _ _ _ HK.out.rd HK.out.rdy hs HK.out.le HG.out).mono ?_;rintro e w9 ⟨rfl,hx9,hb9⟩;clear c0 c1 c2 c3 c4 f0 f1 f2 f3 f4;replace HK:=hJ (HK.out.step hx9 hb9 hqn);clear hx9 hb9;obtain⟨c0,c1,c2,c3,c4,f0,f1,f2,f3,f4⟩:=RdAt.facts HK.out.rd)
        go_roundw
        case rel=>exact⟨k+m,true,by omega,rfl,HK.out,HN.out⟩
        case measure=>rw [HK.out.rd.pos,HPOS.out];simp only;omega
       ·by_cases h93:c=93
        ·subst h93
         have HN:=hJ (show rgx true false (s.data.toList.drop (p+1))=(rgx (decide (k+m=p+1)) false (s.data.toList.drop (k+m))).shift (k+m - (p+1)) from HN0.out)
         clear h47 h92 HN0 b92 h91
         go_wp2_with (go_at_call 96;refine(ai5 b s _ _ _ HK.out.rd HK.out.rdy hs HK.out.le HG.out).mono ?_;rintro e w9 ⟨rfl,hx9,hb9⟩;clear c0 c1 c2 c3 c4 f0 f1 f2 f3 f4;replace HK:=hJ (HK.out.step hx9 hb9 hqn);clear hx9 hb9;obtain⟨c0,c1,c2,c3,c4,f0,f1,f2,f3,f4⟩:=RdAt.facts HK.out.rd)
         go_roundw
         case rel=>exact⟨k+m,false,by omega,rfl,HK.out,HN.out⟩
         case measure=>rw [HK.out.rd.pos,HPOS.out];simp only;omega
        ·have HN:=hJ (show rgx true false (s.data.toList.drop (p+1))=(rgx (decide (k+m=p+1)) cls (s.data.toList.drop (k+m))).shift (k+m - (p+1)) by rw [HN0.out];unfold clsN;rw [if_neg h91,if_neg h93])
         have b91:(c==91)=false:=by rw [beq_eq_false_iff_ne];exact h91
         have b93:(c==93)=false:=by rw [beq_eq_false_iff_ne];exact h93
         clear HN0
         by_cases hc47:c=47
         ·subst hc47
          have hcl:cls=true:=by
           cases cls with
           |true=>rfl
           |false=>exact absurd ⟨rfl,rfl⟩ h47
          subst hcl
          clear h47 h92 h91 h93 b91 b92 b93
          go_wp2_with (go_at_call 96;refine(ai5 b s _ _ _ HK.out.rd HK.out.rdy hs HK.out.le HG.out).mono ?_;rintro e w9 ⟨rfl,hx9,hb9⟩;clear c0 c1 c2 c3 c4 f0 f1 f2 f3 f4;replace HK:=hJ (HK.out.step hx9 hb9 hqn);clear hx9 hb9;obtain⟨c0,c1,c2,c3,c4,f0,f1,f2,f3,f4⟩:=RdAt.facts HK.out.rd)
          go_roundw
          case rel=>exact⟨k+m,true,by omega,rfl,HK.out,HN.out⟩
          case measure=>rw [HK.out.rd.pos,HPOS.out];simp only;omega
         ·have b47:(c==47)=false:=by rw [beq_eq_false_iff_ne];exact hc47
          clear h47 h92 h91 h93 hc47
          go_wp2_with (go_at_call 96;refine(ai5 b s _ _ _ HK.out.rd HK.out.rdy hs HK.out.le HG.out).mono ?_;rintro e w9 ⟨rfl,hx9,hb9⟩;clear c0 c1 c2 c3 c4 f0 f1 f2 f3 f4;replace HK:=hJ (HK.out.step hx9 hb9 hqn);clear hx9 hb9;obtain⟨c0,c1,c2,c3,c4,f0,f1,f2,f3,f4⟩:=RdAt.facts HK.out.rd)
          go_roundw
          case rel=>exact⟨k+m,cls,by omega,rfl,HK.out,HN.out⟩
          case measure=>rw [HK.out.rd.pos,HPOS.out];simp only;omega
end
section
open Go.RowKit
def TkP (b:Nat) (s:ByteArray) (p:Nat) (line:Bool) (fl:Int) (w:World) (o:TkO) (e:Ending) (w':World):Prop:=match o with
 | .fine kind n=>e= .returned (.tuple #[.int .i64 kind,.bool true])∧Tst b s w ⟨p+n,line,fl,0⟩ w'
 | .bad off code=> ∃(x':Rd) (kd:Int),e= .returned (.tuple #[.int .i64 kd,.bool false])∧Tst b s w x' w'∧x'.line=line∧x'.fail=((p+off:Nat):Int)∧x'.code=code
theorem bE8 (b:Nat) (s:ByteArray) (p:Nat) (line:Bool) (fl:Int) (w:World) (hx:RdAt w b s ⟨p,line,fl,0⟩) (hr:ae6 b w) (hp:p≤s.size):
  Calls Tryz.prog 98 #[.pointer (some ⟨b,0,none⟩)] w fun e w'=>TkB b s p line fl w (odd (s.data.toList.drop p)) e w':=by
 have HK:=hJ (show Tst b s w ⟨p,line,fl,0⟩ w from⟨hx,But.refl _ _,hr,hp⟩)
 clear hx hr
 obtain⟨c0,c1,c2,c3,c4,f0,f1,f2,f3,f4⟩:=RdAt.facts HK.out.rd
 cases h92:Lib.hasPrefix (s.data.toList.drop p) [92] with
 |true=>
  have HN:=hJ (show odd (s.data.toList.drop p)= .bad 0 508 by unfold odd;rw [if_pos h92])
  go_enter Tryz.func98,Tryz.ntmps98
  go_upto_region 2 with (go_at_call 97;refine(ad4 b s _ _ _ HK.out.rd HK.out.le).mono ?_;rintro e w9 ⟨rfl,hb⟩;clear c0 c1 c2 c3 c4 f0 f1 f2 f3 f4;replace HK:=hJ (HK.out.bel hb);clear hb;obtain⟨c0,c1,c2,c3,c4,f0,f1,f2,f3,f4⟩:=RdAt.facts HK.out.rd)
  go_wp2_with (go_at_call 99;refine(ae5 b s _ _ _ _ HK.out.rd).mono ?_;rintro e w9 ⟨rfl,hx9,hb9⟩;clear c0 c1 c2 c3 c4 f0 f1 f2 f3 f4;replace HK:=hJ (HK.out.step hx9 hb9 HK.out.le);clear hx9 hb9;obtain⟨c0,c1,c2,c3,c4,f0,f1,f2,f3,f4⟩:=RdAt.facts HK.out.rd)
  go_ret
  rw [HN.out]
  exact⟨_,rfl,HK.out,rfl,by simp only [Nat.add_zero],rfl⟩
 |false=>
  have HN:=hJ (show odd (s.data.toList.drop p)= .bad 0 502 by unfold odd;rw [h92];rfl)
  go_enter Tryz.func98,Tryz.ntmps98
  go_upto_region 3 with (go_at_call 97;refine(ad4 b s _ _ _ HK.out.rd HK.out.le).mono ?_;rintro e w9 ⟨rfl,hb⟩;clear c0 c1 c2 c3 c4 f0 f1 f2 f3 f4;replace HK:=hJ (HK.out.bel hb);clear hb;obtain⟨c0,c1,c2,c3,c4,f0,f1,f2,f3,f4⟩:=RdAt.facts HK.out.rd)
  go_wp2_with (go_at_call 99;refine(ae5 b s _ _ _ _ HK.out.rd).mono ?_;rintro e w9 ⟨rfl,hx9,hb9⟩;clear c0 c1 c2 c3 c4 f0 f1 f2 f3 f4;replace HK:=hJ (HK.out.step hx9 hb9 HK.out.le);clear hx9 hb9;obtain⟨c0,c1,c2,c3,c4,f0,f1,f2,f3,f4⟩:=RdAt.facts HK.out.rd)
  go_ret
  rw [HN.out]
  exact⟨_,rfl,HK.out,rfl,by simp only [Nat.add_zero],rfl⟩
theorem aJ6 (p off:Nat) (code:Int):as2 p off code=((p+(if code=502 then 1+off else 0):Nat):Int):=by
 unfold as2
 split
 ·congr 1
  omega
 ·simp
end
section
open Go.RowKit
end
section
open Go.RowKit
def TkAt (w:World) (g:Nat) (x:Tk):Prop:=w.heap[g]? =some (.cells x.cells 49 (0,0))
theorem TkAt.lt {w:World} {g:Nat} {x:Tk} (h:TkAt w g x):g<w.heap.size:=(Array.getElem?_eq_some_iff.1 h).1
theorem TkAt.bel {w w':World} {g:Nat} {x:Tk} (h:TkAt w g x) (hb:Below w.heap.size w w'):TkAt w' g x:=(hb.block g h.lt).trans h
theorem TkAt.but {w w':World} {g b:Nat} {x:Tk} (h:TkAt w g x) (hb:But b w w') (hg:g≠b):TkAt w' g x:=(hb.block g h.lt hg).trans h
theorem TkAt.cell {w:World} {g:Nat} {x:Tk} (h:TkAt w g x) (k:Nat):w.cell? ⟨g,k,none⟩=x.cells[k]? :=by
 unfold TkAt at h
 simp [World.cell?,h]
theorem TkAt.frozen {w:World} {g:Nat} {x:Tk} (h:TkAt w g x) (k:Nat):w.frozen? ⟨g,k,none⟩=false:=frozen_of_row w g k x.cells _ h
theorem TkAt.set {w:World} {g:Nat} {x y:Tk} (h:TkAt w g x) (k:Nat) (v:Value) (hy:x.cells.setIfInBounds k v=y.cells):TkAt (w.setCell ⟨g,k,none⟩ v) g y:=by
 have:=heap_setCell_same w g k x.cells 49 v h
 rw [hy] at this
 exact this
theorem TkAt.other {w:World} {g b:Nat} {x:Tk} (h:TkAt w g x) (hb:g≠b) (k:Nat) (v:Value):TkAt (w.setCell ⟨b,k,none⟩ v) g x:=(Below.heap_setCell _ _ _ _ hb).trans h
theorem TkAt.facts {w:World} {g:Nat} {kind from' till:Int} {text:ByteArray} {line:Bool} (h:TkAt w g ⟨kind,text,from',till,line⟩):
  w.cell? ⟨g,0,none⟩=some (.int .i64 kind)∧w.cell? ⟨g,1,none⟩=some (.string text)∧w.cell? ⟨g,2,none⟩=some (.int .i64 from')∧w.cell? ⟨g,3,none⟩=some (.int .i64 till)∧w.cell? ⟨g,4,none⟩=some (.bool line)∧
  w.frozen? ⟨g,0,none⟩=false∧w.frozen? ⟨g,1,none⟩=false∧w.frozen? ⟨g,2,none⟩=false∧w.frozen? ⟨g,3,none⟩=false∧w.frozen? ⟨g,4,none⟩=false:=
 ⟨h.cell 0,h.cell 1,h.cell 2,h.cell 3,h.cell 4,h.frozen 0,h.frozen 1,h.frozen 2,h.frozen 3,h.frozen 4⟩
theorem TkAt.lay {w:World} {g:Nat} {x:Tk} {kind from' till:Int} {text:ByteArray} {line:Bool} (h:TkAt w g x):
  TkAt (((((w.setCell ⟨g,0,none⟩ (.int .i64 kind)).setCell ⟨g,1,none⟩ (.string text)).setCell ⟨g,2,none⟩ (.int .i64 from')).setCell ⟨g,3,none⟩ (.int .i64 till)).setCell ⟨g,4,none⟩ (.bool line)) g ⟨kind,text,from',till,line⟩:=by
 obtain⟨k0,t0,f0,l0,b0⟩:=x
 exact TkAt.set (x:=⟨kind,text,from',till,b0⟩) (TkAt.set (x:=⟨kind,text,from',l0,b0⟩) (TkAt.set (x:=⟨kind,text,f0,l0,b0⟩) (TkAt.set (x:=⟨kind,t0,f0,l0,b0⟩) (TkAt.set (x:=⟨k0,t0,f0,l0,b0⟩) h 0 _ rfl) 1 _ rfl) 2 _ rfl) 3 _ rfl) 4 _ rfl
theorem ay1 {B:Nat} {a w:World} {g:Nat} {kind from' till:Int} {text:ByteArray} {line:Bool} (h:Below B a w) (hg:B≤g):
  Below B a (((((w.setCell ⟨g,0,none⟩ (.int .i64 kind)).setCell ⟨g,1,none⟩ (.string text)).setCell ⟨g,2,none⟩ (.int .i64 from')).setCell ⟨g,3,none⟩ (.int .i64 till)).setCell ⟨g,4,none⟩ (.bool line)):=
 ((((h.setCell (p:=⟨g,0,none⟩) hg _).setCell (p:=⟨g,1,none⟩) hg _).setCell (p:=⟨g,2,none⟩) hg _).setCell (p:=⟨g,3,none⟩) hg _).setCell (p:=⟨g,4,none⟩) hg _
theorem bA9 {w:World} {g:Nat} {x:Tk} (h:TkAt w g x):(loadVar 49 ⟨g,0,none⟩).run Tryz.prog w= .ok x.val w:=
 run_loadVar_row w g 49 49 x.cells (0,0) _ h Tryz.underlying49 rfl (by kernel_rfl)
theorem aX9 {fn:Func} {p u v z:Tmp} (h:fn.results= #[.cell p 49,.tmp u,.tmp v,.tmp z]) (tmps:Array Value) (w:World) (g:Nat) (x:Tk) (hp:tmps.getD p undef= .pointer (some ⟨g,0,none⟩)) (hx:TkAt w g x):
  (results fn tmps).run Tryz.prog w= .ok (.tuple #[x.val,tmps.getD u undef,tmps.getD v undef,tmps.getD z undef]) w:=by
 have hp':tmps[p]?.getD undef= .pointer (some ⟨g,0,none⟩):=by simpa using hp
 simp [results,h,hp',asAddr,bA9 hx]
def OwnC (B:Nat) (w:World) (v:Value) (cs:List Cm):Prop:=w.ownsRow B 132 4 v cs.length (as8 cs)
theorem OwnC.mono {B C:Nat} {w:World} {v:Value} {cs:List Cm} (h:OwnC B w v cs) (hc:C≤B):OwnC C w v cs:=by
 refine⟨h.1,?_⟩
 rcases h.2 with h2|⟨g,cap,cur,hv,hg,r⟩
 ·exact .inl h2
 ·exact .inr ⟨g,cap,cur,hv,Nat.le_trans hc hg,r⟩
def aH4 (s:ByteArray) (w:World) (o:NxO) (e:Ending) (w':World):Prop:=match o with
 | .fine kind q n line cs=> ∃v,e= .returned (.tuple #[(⟨kind,s.extract q (q+n),q,((q+n:Nat):Int),line⟩:Tk).val,v,.int .i64 0,.int .i64 0])∧OwnC w.heap.size w' v cs∧Below w.heap.size w w'
 | .bad place code=>e= .returned (.tuple #[Tk.zero.val,.slice none 0 0,.int .i64 place,.int .i64 code])∧Below w.heap.size w w'
theorem bB0 (w:World):TkAt (w.alloc (.cells Tk.zero.cells 49)) w.heap.size Tk.zero:=heap_alloc_new _ _
end
section
open Go.RowKit
def TpO.In (o:TpO) (m:Nat):Prop:=match o with
 | .fine n _=>n≤m
 | .bad off _=>off≤m
theorem TpO.In.shift {o:TpO} {k m:Nat} (h:o.In (m - k)) (hk:k≤m):(o.shift k).In m:=by
 cases o<;>simp only [TpO.In,TpO.shift] at h⊢ <;>omega
def TkO.In (o:TkO) (m:Nat):Prop:=match o with
 | .fine kind n=>n≤m∧(kind=0→n=0∧m=0)
 | .bad off _=>off≤m
def aA6 (s:ByteArray):Nat→Nat→List Cm→Prop
 |p,q,[]=>p≤q
 |p,q,c::cs=> ∃f t:Nat,c.from'=(f:Int)∧c.till=(t:Int)∧p≤f∧f<t∧c.text=s.extract f t∧aA6 s t q cs
theorem aA6.le {s:ByteArray} {q:Nat} : ∀(cs:List Cm) {p:Nat},aA6 s p q cs→p≤q
 | [],_,h=>h
 |c::cs,p,h=>by
  obtain⟨f,t,_,_,h1,h2,_,h3⟩:=h
  have:=aA6.le cs h3
  omega
theorem aA6.mono {s:ByteArray} {p p' q:Nat} {cs:List Cm} (h:aA6 s p' q cs) (hp:p≤p'):aA6 s p q cs:=by
 cases cs with
 |nil=>exact Nat.le_trans hp h
 |cons c cs=>
  obtain⟨f,t,h1,h2,h3,h4,h5,h6⟩:=h
  exact⟨f,t,h1,h2,by omega,h4,h5,h6⟩
def BtIn (s:ByteArray) (p:Nat):BtO→Prop
 | .fine q _ cs=>aA6 s p q cs∧q≤s.size∧aD4 (s.data.toList.drop q)=false∧aj8 q (s.data.toList.drop q)=0
 | .bad place _=>0≤place∧place≤s.size
theorem BtIn.mono {s:ByteArray} {p p':Nat} {o:BtO} (h:BtIn s p' o) (hp:p≤p'):BtIn s p o:=by
 cases o with
 |fine q line cs=>exact⟨h.1.mono hp,h.2⟩
 |bad place code=>exact h
end
section
open Go.RowKit
def TpO.Nz:TpO→Prop
 | .fine _ _=>True
 | .bad _ code=>code≠0
theorem TpO.Nz.shift {o:TpO} {k:Nat} (h:o.Nz):(o.shift k).Nz:=by cases o<;>exact h
def TkO.Nz:TkO→Prop
 | .fine _ _=>True
 | .bad _ code=>code≠0
def BtO.Nz:BtO→Prop
 | .fine _ _ _=>True
 | .bad _ code=>code≠0
def NxO.Nz:NxO→Prop
 | .fine _ _ _ _ _=>True
 | .bad _ code=>code≠0
theorem aA6.get {s:ByteArray} {q:Nat} : ∀(cs:List Cm) {p:Nat},aA6 s p q cs→∀(i:Nat) (hi:i<cs.length),∃f t:Nat,cs[i].from'=(f:Int)∧cs[i].till=(t:Int)∧p≤f∧f<t∧t≤q∧cs[i].text=s.extract f t∧
  (∀(j:Nat) (hj:j+1=i),∃u:Nat,(cs[j]'(by omega)).till=(u:Int)∧u≤f)
 | [],_,_,_,hi=>absurd hi (by simp)
 |c::cs,p,h,0,_=>by
  obtain⟨f,t,h1,h2,h3,h4,h5,h6⟩:=h
  exact⟨f,t,h1,h2,h3,h4,aA6.le cs h6,h5,fun j hj=>by omega⟩
 |c::cs,p,h,i+1,hi=>by
  obtain⟨f,t,h1,h2,h3,h4,h5,h6⟩:=h
  obtain⟨f',t',g1,g2,g3,g4,g5,g6,g7⟩:=aA6.get cs h6 i (by simpa using hi)
  refine⟨f',t',g1,g2,by omega,g4,g5,g6,fun j hj=> ?_⟩
  cases j with
  |zero=>exact⟨t,h2,g3⟩
  |succ j=>
   obtain⟨u,k1,k2⟩:=g7 j (by omega)
   exact⟨u,k1,k2⟩
end
end Go.Proofs.YtnobjeelihkjmaaGreatDoor
