/- Steps (LL LM LO LP LPA LPB LPC LT LTk). Conditions: as stated. -/
import Derived.Test.YtnobjeelihkjmaaGreatDoorZk02
set_option maxHeartbeats 4000000
set_option maxRecDepth 1000000
namespace Go.Proofs.YtnobjeelihkjmaaGreatDoor
section
open Go.RowKit
theorem TpO.shift_shift (o:TpO) (m k:Nat):(o.shift m).shift k=o.shift (k+m):=by
 cases o<;>simp [TpO.shift,Nat.add_assoc]
theorem TpO.shift_zero (o:TpO):o.shift 0=o:=by
 cases o<;>simp [TpO.shift]
structure Tst (b:Nat) (s:ByteArray) (w0:World) (x:Rd) (w:World):Prop where
 rd:RdAt w b s x
 but:But b w0 w
 rdy:ae6 b w
 le:x.at'≤s.size
theorem Tst.step {b:Nat} {s:ByteArray} {w0 w w':World} {x y:Rd} (h:Tst b s w0 x w) (hx:RdAt w' b s y) (hb:But b w w') (hl:y.at'≤s.size):Tst b s w0 y w':=
 ⟨hx,h.but.trans hb,h.rdy.but h.rd.lt hb,hl⟩
theorem Tst.bel {b:Nat} {s:ByteArray} {w0 w w':World} {x:Rd} (h:Tst b s w0 x w) (hb:Below w.heap.size w w'):Tst b s w0 x w':=h.step (h.rd.bel hb) (.of_below hb) h.le
theorem Tst.setRd {b:Nat} {s:ByteArray} {w0 w:World} {x y:Rd} (h:Tst b s w0 x w) (k:Nat) (u:Value) (hy:(x.cells s).setIfInBounds k u=y.cells s) (hl:y.at'≤s.size):Tst b s w0 y (w.setCell ⟨b,k,none⟩ u):=
 h.step (h.rd.set k u hy) ((But.refl b w).setCell k u) hl
def as2 (p off:Nat) (code:Int):Int:=if code=502 then ((p+1+off:Nat):Int) else p
def aM3 (b:Nat) (s:ByteArray) (p:Nat) (line:Bool) (fl:Int) (w:World) (o:TpO) (e:Ending) (w':World):Prop:=match o with
 | .fine n h=>e= .returned (.tuple #[.bool h,.bool true])∧Tst b s w ⟨p+1+n,line,fl,0⟩ w'
 | .bad off code=> ∃x':Rd,e= .returned (.tuple #[.bool false,.bool false])∧Tst b s w x' w'∧x'.line=line∧x'.fail=as2 p off code∧x'.code=code
def bL4 (b:Nat) (s:ByteArray) (p:Nat) (line:Bool) (fl:Int) (w:World) (wr:World):Prop:=
 ∃k:Nat,p+1≤k∧Tst b s w ⟨k,line,fl,0⟩ wr∧tpl (s.data.toList.drop (p+1))=(tpl (s.data.toList.drop k)).shift (k - (p+1))
theorem aQ9 (b:Nat) (s:ByteArray) (p:Nat) (line:Bool) (fl:Int) (w:World) (hx:RdAt w b s ⟨p,line,fl,0⟩) (hr:ae6 b w) (hs:s.size≤16777216) (hp:p<s.size):
  Calls Tryz.prog 94 #[.pointer (some ⟨b,0,none⟩)] w fun e w'=>aM3 b s p line fl w (tpl (s.data.toList.drop (p+1))) e w':=by
 have hk0:Tst b s w ⟨p,line,fl,0⟩ w:=⟨hx,But.refl _ _,hr,Nat.le_of_lt hp⟩
 have hk:=hk0.setRd (y:=⟨p+1,line,fl,0⟩) 0 (.int .i64 ((p:Int)+1)) rfl (show p+1≤s.size by omega)
 obtain⟨c0,c1,c2,c3,c4,f0,f1,f2,f3,f4⟩:=RdAt.facts hx
 clear hx hr
 go_enter Tryz.func94,Tryz.ntmps94
 go_wp2
 go_loopw [2,3,19,31,43] (fun _ _ _ _ _ wr=>bL4 b s p line fl w wr) (fun _ _ _ _ _ wr=>s.size - aU1 wr b)
 case atStart=>exact⟨p+1,Nat.le_refl _,hk,by rw [Nat.sub_self,TpO.shift_zero]⟩
 case round=>
  obtain⟨k,hpk,hst,heq⟩:=hrel
  have hle:=hst.le
  simp only at hle
  have hstep:=by8 (s.data.toList.drop k)
  rw [hstep] at heq
  have HPOS:=hJ hst.rd.pos
  have HK:=hJ hst
  have HEQ:=hJ heq
  clear hst heq hstep hk hk0 c0 c1 c2 c3 c4 f0 f1 f2 f3 f4
  obtain⟨c0,c1,c2,c3,c4,f0,f1,f2,f3,f4⟩:=RdAt.facts HK.out.rd
  cases h96:Lib.hasPrefix (s.data.toList.drop k) [96] with
  |true=>
   have hl:=ae1 h96
   rw [List.length_drop,ofl] at hl
   have hl1:k+1≤s.size:=by simp at hl;omega
   have HN:=hJ (show tpl (s.data.toList.drop (p+1))= .fine (k - (p+1)+1) false by rw [HEQ.out,if_pos h96];rfl)
   clear HEQ hl
   go_upto_region 4 with (go_at_call 97;refine(ad4 b s _ _ _ HK.out.rd HK.out.le).mono ?_;rintro e w9 ⟨rfl,hb⟩;clear c0 c1 c2 c3 c4 f0 f1 f2 f3 f4;replace HK:=hJ (HK.out.bel hb);clear hb;obtain⟨c0,c1,c2,c3,c4,f0,f1,f2,f3,f4⟩:=RdAt.facts HK.out.rd)
   have hk1:=HK.out.setRd (y:=⟨k+1,line,fl,0⟩) 0 (.int .i64 ((k:Int)+1)) rfl hl1
   go_wp2_with fail
   go_ret2
   rw [HN.out]
   unfold aM3
   simp only
   rw [show p+1+(k - (p+1)+1)=k+1 by omega]
   exact⟨rfl,hk1⟩
  |false=>
   cases h36:Lib.hasPrefix (s.data.toList.drop k) [36,123] with
   |true=>
    have hl:=ae1 h36
    rw [List.length_drop,ofl] at hl
    have hl1:k+2≤s.size:=by simp at hl;omega
    have HN:=hJ (show tpl (s.data.toList.drop (p+1))= .fine (k - (p+1)+2) true by rw [HEQ.out,if_neg (by rw [h96];decide),if_pos h36];rfl)
    clear HEQ hl
    go_upto_region 6 with (go_at_call 97;refine(ad4 b s _ _ _ HK.out.rd HK.out.le).mono ?_;rintro e w9 ⟨rfl,hb⟩;clear c0 c1 c2 c3 c4 f0 f1 f2 f3 f4;replace HK:=hJ (HK.out.bel hb);clear hb;obtain⟨c0,c1,c2,c3,c4,f0,f1,f2,f3,f4⟩:=RdAt.facts HK.out.rd)
    go_upto_region 7 with (go_at_call 97;refine(ad4 b s _ _ _ HK.out.rd HK.out.le).mono ?_;rintro e w9 ⟨rfl,hb⟩;clear c0 c1 c2 c3 c4 f0 f1 f2 f3 f4;replace HK:=hJ (HK.out.bel hb);clear hb;obtain⟨c0,c1,c2,c3,c4,f0,f1,f2,f3,f4⟩:=RdAt.facts HK.out.rd)
    have hk1:=HK.out.setRd (y:=⟨k+2,line,fl,0⟩) 0 (.int .i64 ((k:Int)+2)) rfl hl1
    go_wp2_with fail
    go_ret2
    rw [HN.out]
    unfold aM3
    simp only
    rw [show p+1+(k - (p+1)+2)=k+2 by omega]
    exact⟨rfl,hk1⟩
   |false=>
    cases h92:Lib.hasPrefix (s.data.toList.drop k) [92] with
    |true=>
     have hl:=ae1 h92
     rw [List.length_drop,ofl] at hl
     have hq:k+1≤s.size:=by simp at hl;omega
     clear hl
     have hesc:esc (s.data.toList.drop k)=1:=by unfold esc;rw [h92];rfl
     have heq:=HEQ.out
     rw [if_neg (show¬_ by rw [h96];decide),if_neg (show¬_ by rw [h36];decide),hesc,List.drop_drop,List.drop_drop] at heq
     clear HEQ hesc
     have HQ:=hJ heq
     clear heq
     have hpz:=fun h=>aj0 (l:=s.data.toList.drop (k+1)) h
     rw [List.length_drop,ofl] at hpz
     have HPZ:=hJ hpz
     clear hpz
     go_upto_region 6 with (go_at_call 97;refine(ad4 b s _ _ _ HK.out.rd HK.out.le).mono ?_;rintro e w9 ⟨rfl,hb⟩;clear c0 c1 c2 c3 c4 f0 f1 f2 f3 f4;replace HK:=hJ (HK.out.bel hb);clear hb;obtain⟨c0,c1,c2,c3,c4,f0,f1,f2,f3,f4⟩:=RdAt.facts HK.out.rd)
     go_upto_region 9 with (go_at_call 97;refine(ad4 b s _ _ _ HK.out.rd HK.out.le).mono ?_;rintro e w9 ⟨rfl,hb⟩;clear c0 c1 c2 c3 c4 f0 f1 f2 f3 f4;replace HK:=hJ (HK.out.bel hb);clear hb;obtain⟨c0,c1,c2,c3,c4,f0,f1,f2,f3,f4⟩:=RdAt.facts HK.out.rd)
     go_upto_region 10 with (go_at_call 97;refine(ad4 b s _ _ _ HK.out.rd HK.out.le).mono ?_;rintro e w9 ⟨rfl,hb⟩;clear c0 c1 c2 c3 c4 f0 f1 f2 f3 f4;replace HK:=hJ (HK.out.bel hb);clear hb;obtain⟨c0,c1,c2,c3,c4,f0,f1,f2,f3,f4⟩:=RdAt.facts HK.out.rd)
     have hk1:=HK.out.setRd (y:=⟨k+1,line,fl,0⟩) 0 (.int .i64 ((k:Int)+1)) rfl hq
     go_upto_region 11 with fail
     clear c0 c1 c2 c3 c4 f0 f1 f2 f3 f4 HK
     generalize World.setCell _ _ _=w6 at*
     have HK:=hJ hk1
     clear hk1
     obtain⟨c0,c1,c2,c3,c4,f0,f1,f2,f3,f4⟩:=RdAt.facts HK.out.rd
     by_cases hneg:(nx (s.data.toList.drop (k+1))).2<0
     ·have HN:=hJ (show tpl (s.data.toList.drop (p+1))= .bad (k - (p+1)+1) 502 by rw [HQ.out,if_neg (by omega),if_pos hneg];rfl)
      have HG:=hJ hneg
      clear hneg HQ HPZ
      go_wp2_with (go_at_call 96;refine(aB8 b s _ _ HK.out.rd HK.out.rdy HK.out.le HG.out).mono ?_;rintro e w9 ⟨rfl,hx9,hb9⟩;clear c0 c1 c2 c3 c4 f0 f1 f2 f3 f4;replace HK:=hJ (HK.out.step hx9 hb9 HK.out.le);clear hx9 hb9;obtain⟨c0,c1,c2,c3,c4,f0,f1,f2,f3,f4⟩:=RdAt.facts HK.out.rd)
      go_ret2
      rw [HN.out]
      exact⟨_,rfl,HK.out,rfl,by unfold as2;rw [if_pos rfl];simp only;omega,rfl⟩
     ·obtain⟨n,hn,hn1,hn2,_⟩:=HPZ.out (by omega)
      have hqn:k+1+n≤s.size:=by omega
      by_cases hz:n=0
      ·subst hz
       have HN:=hJ (show tpl (s.data.toList.drop (p+1))= .bad (k - (p+1)+1) 505 by rw [HQ.out,if_pos (by rw [hn];rfl)];rfl)
       have HG:=hJ hn
       clear hn hneg HQ HPZ
       go_wp2_with (first|(go_at_call 96;refine(ai5 b s _ _ _ HK.out.rd HK.out.rdy hs HK.out.le HG.out).mono ?_;rintro e w9 ⟨rfl,hx9,hb9⟩;clear c0 c1 c2 c3 c4 f0 f1 f2 f3 f4;replace HK:=hJ (HK.out.step hx9 hb9 hqn);clear hx9 hb9;obtain⟨c0,c1,c2,c3,c4,f0,f1,f2,f3,f4⟩:=RdAt.facts HK.out.rd)|(go_at_call 99;refine(ae5 b s _ _ _ _ HK.out.rd).mono ?_;rintro e w9 ⟨rfl,hx9,hb9⟩;clear c0 c1 c2 c3 c4 f0 f1 f2 f3 f4;replace HK:=hJ (HK.out.step hx9 hb9 hqn);clear hx9 hb9;obtain⟨c0,c1,c2,c3,c4,f0,f1,f2,f3,f4⟩:=RdAt.facts HK.out.rd))
       go_ret2
       rw [HN.out]
       exact⟨_,rfl,HK.out,rfl,rfl,rfl⟩
      ·have HN:=hJ (show tpl (s.data.toList.drop (p+1))=(tpl (s.data.toList.drop (k+1+n))).shift (k+1+n - (p+1)) by rw [HQ.out,if_neg (by omega),if_neg hneg,TpO.shift_shift,hn,Int.toNat_natCast];congr 1<;>first|omega|(congr 2;omega))
       have HG:=hJ hn
       clear hn hneg HQ HPZ
       have hd:decide (0<n)=true:=decide_eq_true (by omega)
       go_wp2_with (go_at_call 96;refine(ai5 b s _ _ _ HK.out.rd HK.out.rdy hs HK.out.le HG.out).mono ?_;rintro e w9 ⟨rfl,hx9,hb9⟩;clear c0 c1 c2 c3 c4 f0 f1 f2 f3 f4;replace HK:=hJ (HK.out.step hx9 hb9 hqn);clear hx9 hb9;obtain⟨c0,c1,c2,c3,c4,f0,f1,f2,f3,f4⟩:=RdAt.facts HK.out.rd)
       go_roundw
       case rel=>exact⟨k+1+n,by omega,HK.out,HN.out⟩
       case measure=>rw [HK.out.rd.pos,HPOS.out];simp only;omega
    |false=>
     have hq:k≤s.size:=hle
     have hesc:esc (s.data.toList.drop k)=0:=by unfold esc;rw [h92];rfl
     have heq:=HEQ.out
     rw [if_neg (show¬_ by rw [h96];decide),if_neg (show¬_ by rw [h36];decide),hesc,List.drop_drop,List.drop_drop] at heq
     simp only [Nat.add_zero,Nat.zero_add] at heq
     clear HEQ hesc
     have HQ:=hJ heq
     clear heq
     have hpz:=fun h=>aj0 (l:=s.data.toList.drop (k)) h
     rw [List.length_drop,ofl] at hpz
     have HPZ:=hJ hpz
     clear hpz
     go_upto_region 6 with (go_at_call 97;refine(ad4 b s _ _ _ HK.out.rd HK.out.le).mono ?_;rintro e w9 ⟨rfl,hb⟩;clear c0 c1 c2 c3 c4 f0 f1 f2 f3 f4;replace HK:=hJ (HK.out.bel hb);clear hb;obtain⟨c0,c1,c2,c3,c4,f0,f1,f2,f3,f4⟩:=RdAt.facts HK.out.rd)
     go_upto_region 9 with (go_at_call 97;refine(ad4 b s _ _ _ HK.out.rd HK.out.le).mono ?_;rintro e w9 ⟨rfl,hb⟩;clear c0 c1 c2 c3 c4 f0 f1 f2 f3 f4;replace HK:=hJ (HK.out.bel hb);clear hb;obtain⟨c0,c1,c2,c3,c4,f0,f1,f2,f3,f4⟩:=RdAt.facts HK.out.rd)
     go_upto_region 11 with (go_at_call 97;refine(ad4 b s _ _ _ HK.out.rd HK.out.le).mono ?_;rintro e w9 ⟨rfl,hb⟩;clear c0 c1 c2 c3 c4 f0 f1 f2 f3 f4;replace HK:=hJ (HK.out.bel hb);clear hb;obtain⟨c0,c1,c2,c3,c4,f0,f1,f2,f3,f4⟩:=RdAt.facts HK.out.rd)
     by_cases hneg:(nx (s.data.toList.drop (k))).2<0
     ·have HN:=hJ (show tpl (s.data.toList.drop (p+1))= .bad (k - (p+1)+0) 502 by rw [HQ.out,if_neg (by omega),if_pos hneg];rfl)
      have HG:=hJ hneg
      clear hneg HQ HPZ
      go_wp2_with (go_at_call 96;refine(aB8 b s _ _ HK.out.rd HK.out.rdy HK.out.le HG.out).mono ?_;rintro e w9 ⟨rfl,hx9,hb9⟩;clear c0 c1 c2 c3 c4 f0 f1 f2 f3 f4;replace HK:=hJ (HK.out.step hx9 hb9 HK.out.le);clear hx9 hb9;obtain⟨c0,c1,c2,c3,c4,f0,f1,f2,f3,f4⟩:=RdAt.facts HK.out.rd)
      go_ret2
      rw [HN.out]
      exact⟨_,rfl,HK.out,rfl,by unfold as2;rw [if_pos rfl];simp only;omega,rfl⟩
     ·obtain⟨n,hn,hn1,hn2,_⟩:=HPZ.out (by omega)
      have hqn:k+n≤s.size:=by omega
      by_cases hz:n=0
      ·subst hz
       have HN:=hJ (show tpl (s.data.toList.drop (p+1))= .bad (k - (p+1)+0) 505 by rw [HQ.out,if_pos (by rw [hn];rfl)];rfl)
       have HG:=hJ hn
       clear hn hneg HQ HPZ
       go_wp2_with (first|(go_at_call 96;refine(ai5 b s _ _ _ HK.out.rd HK.out.rdy hs HK.out.le HG.out).mono ?_;rintro e w9 ⟨rfl,hx9,hb9⟩;clear c0 c1 c2 c3 c4 f0 f1 f2 f3 f4;replace HK:=hJ (HK.out.step hx9 hb9 hqn);clear hx9 hb9;obtain⟨c0,c1,c2,c3,c4,f0,f1,f2,f3,f4⟩:=RdAt.facts HK.out.rd)|(go_at_call 99;refine(ae5 b s _ _ _ _ HK.out.rd).mono ?_;rintro e w9 ⟨rfl,hx9,hb9⟩;clear c0 c1 c2 c3 c4 f0 f1 f2 f3 f4;replace HK:=hJ (HK.out.step hx9 hb9 hqn);clear hx9 hb9;obtain⟨c0,c1,c2,c3,c4,f0,f1,f2,f3,f4⟩:=RdAt.facts HK.out.rd))
       go_ret2
       rw [HN.out]
       exact⟨_,rfl,HK.out,rfl,rfl,rfl⟩
      ·have HN:=hJ (show tpl (s.data.toList.drop (p+1))=(tpl (s.data.toList.drop (k+n))).shift (k+n - (p+1)) by rw [HQ.out,if_neg (by omega),if_neg hneg,TpO.shift_shift,hn,Int.toNat_natCast];congr 1<;>first|omega|(congr 2;omega))
       have HG:=hJ hn
       clear hn hneg HQ HPZ
       have hd:decide (0<n)=true:=decide_eq_true (by omega)
       go_wp2_with (go_at_call 96;refine(ai5 b s _ _ _ HK.out.rd HK.out.rdy hs HK.out.le HG.out).mono ?_;rintro e w9 ⟨rfl,hx9,hb9⟩;clear c0 c1 c2 c3 c4 f0 f1 f2 f3 f4;replace HK:=hJ (HK.out.step hx9 hb9 hqn);clear hx9 hb9;obtain⟨c0,c1,c2,c3,c4,f0,f1,f2,f3,f4⟩:=RdAt.facts HK.out.rd)
       go_roundw
       case rel=>exact⟨k+n,by omega,HK.out,HN.out⟩
       case measure=>rw [HK.out.rd.pos,HPOS.out];simp only;omega
end
section
open Go.RowKit
def escC (c:Int):Nat:=if c=92 then 1 else 0
def clsN (c:Int) (cls:Bool):Bool:=if c=91 then true else if c=93 then false else cls
def rgxF:Nat→Bool→Bool→List UInt8→TpO
 |0,_,_,_=> .bad 0 0
 |f+1,first,cls,l=>
  if (nx l).2=0∨(0<(nx l).2∧at6 (nx l).1=true)∨(first=true∧((nx l).1=42∨(nx l).1=47)) then .bad 0 506
  else if (nx l).1=47∧cls=false then .fine (1+ae9 false (l.drop 1)) false
  else if (nx l).1=92∧((nx (l.drop 1)).2=0∨(0<(nx (l.drop 1)).2∧at6 (nx (l.drop 1)).1=true)) then .bad 1 506
  else if (nx (l.drop (escC (nx l).1))).2≤0 then .bad (escC (nx l).1) 502
  else (rgxF f false (clsN (nx l).1 cls) (l.drop (escC (nx l).1+(nx (l.drop (escC (nx l).1))).2.toNat))).shift (escC (nx l).1+(nx (l.drop (escC (nx l).1))).2.toNat)
theorem aQ8: ∀(f g:Nat) (first cls:Bool) (l:List UInt8),l.length<f→l.length<g→rgxF f first cls l=rgxF g first cls l
 |0,_,_,_,_,h,_=>by omega
 |_+1,0,_,_,_,_,h=>by omega
 |f+1,g+1,first,cls,l,h1,h2=>by
  rw [rgxF,rgxF]
  by_cases e0:(nx (l.drop (escC (nx l).1))).2≤0
  ·simp only [if_pos e0]
  ·obtain⟨m,h3,h4,h5,h6⟩:=aj0 (l:=l.drop (escC (nx l).1)) (by omega)
   rw [List.length_drop] at h4
   rw [aQ8 f g false (clsN (nx l).1 cls) (l.drop (escC (nx l).1+(nx (l.drop (escC (nx l).1))).2.toNat)) (by rw [List.length_drop,h3,Int.toNat_natCast];omega) (by rw [List.length_drop,h3,Int.toNat_natCast];omega)]
def rgx (first cls:Bool) (l:List UInt8):TpO:=rgxF (l.length+1) first cls l
theorem by4 (first cls:Bool) (l:List UInt8):rgx first cls l=
  if (nx l).2=0∨(0<(nx l).2∧at6 (nx l).1=true)∨(first=true∧((nx l).1=42∨(nx l).1=47)) then .bad 0 506
  else if (nx l).1=47∧cls=false then .fine (1+ae9 false (l.drop 1)) false
  else if (nx l).1=92∧((nx (l.drop 1)).2=0∨(0<(nx (l.drop 1)).2∧at6 (nx (l.drop 1)).1=true)) then .bad 1 506
  else if (nx (l.drop (escC (nx l).1))).2≤0 then .bad (escC (nx l).1) 502
  else (rgx false (clsN (nx l).1 cls) (l.drop (escC (nx l).1+(nx (l.drop (escC (nx l).1))).2.toNat))).shift (escC (nx l).1+(nx (l.drop (escC (nx l).1))).2.toNat):=by
 unfold rgx
 rw [rgxF]
 by_cases e0:(nx (l.drop (escC (nx l).1))).2≤0
 ·simp only [if_pos e0]
 ·obtain⟨m,h3,h4,h5,h6⟩:=aj0 (l:=l.drop (escC (nx l).1)) (by omega)
  rw [List.length_drop] at h4
  rw [aQ8 l.length ((l.drop (escC (nx l).1+(nx (l.drop (escC (nx l).1))).2.toNat)).length+1) false (clsN (nx l).1 cls) (l.drop (escC (nx l).1+(nx (l.drop (escC (nx l).1))).2.toNat)) (by rw [List.length_drop,h3,Int.toNat_natCast];omega) (by omega)]
end
section
open Go.RowKit
def hexD (c:UInt8):Int:=if 48≤c.toNat∧c.toNat≤57 then (c.toNat:Int) - 48 else if 97≤c.toNat∧c.toNat≤102 then (c.toNat:Int) - 97+10 else if 65≤c.toNat∧c.toNat≤70 then (c.toNat:Int) - 65+10 else -1
theorem aL0 (c:UInt8): -1≤hexD c∧hexD c<16:=by
 unfold hexD
 split
 ·omega
 ·split
  ·omega
  ·split<;>omega
def up (k:Nat) (o:Bool × Nat):Bool × Nat:=(o.1,k+o.2)
theorem bz0 (a c:Nat) (o:Bool × Nat):up a (up c o)=up (a+c) o:=by simp [up,Nat.add_assoc]
theorem aY2 (o:Bool × Nat):up 0 o=o:=by simp [up]
def digN:Nat→List UInt8→Bool × Nat
 |0,_=>(true,0)
 |_+1,[]=>(false,0)
 |m+1,c::l=>if 0≤hexD c then up 1 (digN m l) else (false,0)
theorem aS3: ∀(m:Nat) (l:List UInt8),(digN m l).2≤l.length
 |0,_=>Nat.zero_le _
 |_+1,[]=>Nat.zero_le _
 |m+1,c::l=>by
  rw [digN]
  have:=aS3 m l
  split
  ·simp [up];omega
  ·exact Nat.zero_le _
def brcN:Int→Bool→List UInt8→Bool × Nat
 |_,_,[]=>(false,0)
 |x,first,c::l=>if 0≤hexD c then up 1 (brcN (min (x*16+hexD c) 1114112) false l) else if c≠125∨first=true∨1114111<x then (false,0) else (true,1)
theorem bi6: ∀(l:List UInt8) (x:Int) (first:Bool),(brcN x first l).2≤l.length
 | [],_,_=>Nat.zero_le _
 |c::l,x,first=>by
  rw [brcN]
  have:=bi6 l (min (x*16+hexD c) 1114112) false
  split
  ·simp [up];omega
  ·split<;>simp
def escS (l:List UInt8):Bool × Nat:=
 if (nx (l.drop 1)).2≤0 then (false,1)
 else if 49≤(nx (l.drop 1)).1∧(nx (l.drop 1)).1≤57 then (false,1)
 else if (nx (l.drop 1)).1=48 then (if ak5 (l.drop 2)=true then (false,2) else (true,2))
 else if (nx (l.drop 1)).1=120 then up 2 (digN 2 (l.drop 2))
 else if (nx (l.drop 1)).1=117 then (if Lib.hasPrefix (l.drop 2) [123]=true then up 3 (brcN 0 true (l.drop 3)) else up 2 (digN 4 (l.drop 2)))
 else if (nx (l.drop 1)).1=13∧Lib.hasPrefix (l.drop 2) [10]=true then (true,3)
 else (true,1+(nx (l.drop 1)).2.toNat)
theorem aK9 {l:List UInt8} (h:l≠ []):(escS l).2≤l.length∧0<(escS l).2:=by
 have hl:0<l.length:=List.length_pos_iff.2 h
 have h1:=aS3 2 (l.drop 2)
 have h2:=aS3 4 (l.drop 2)
 have h3:=bi6 (l.drop 3) 0 true
 have hp:0<(nx (l.drop 1)).2→∃n:Nat,(nx (l.drop 1)).2=n∧n≤l.length - 1∧1≤l.length - 1:=by
  intro h0
  obtain⟨n,e,e2,_,_⟩:=aj0 (l:=l.drop 1) (by omega)
  rw [List.length_drop] at e2
  exact⟨n,e,e2,by omega⟩
 rw [List.length_drop] at h1 h2 h3
 unfold escS
 by_cases c0:(nx (l.drop 1)).2≤0
 ·rw [if_pos c0];exact⟨hl,by decide⟩
 ·obtain⟨n,e,e2,e3⟩:=hp (by omega)
  have hpre: ∀a,Lib.hasPrefix (l.drop 2) [a]=true→3≤l.length:=by
   intro a ha
   have:=ae1 ha
   rw [List.length_drop] at this
   simp at this
   omega
  rw [if_neg c0]
  split
  ·exact⟨by show 1≤_;omega,by decide⟩
  ·split
   ·split
    ·exact⟨by show 2≤_;omega,by decide⟩
    ·exact⟨by show 2≤_;omega,by decide⟩
   ·split
    ·simp only [up];omega
    ·split
     ·split
      ·rename_i hh
       have:=hpre _ hh
       simp only [up];omega
      ·simp only [up];omega
     ·split
      ·rename_i hh
       have:=hpre _ hh.2
       exact⟨this,by decide⟩
      ·rw [e]
       constructor
       ·show 1+(n:Int).toNat≤_
        omega
       ·show 0<1+(n:Int).toNat
        omega
def prtF:Nat→UInt8→List UInt8→Bool × Nat
 |0,_,_=>(true,0)
 |_+1,_,[]=>(true,0)
 |f+1,q,c::l=>
  if c=q then (true,0)
  else if (nx (c::l)).2<0∨(nx (c::l)).1=10∨(nx (c::l)).1=13 then (false,0)
  else if (nx (c::l)).1=92 then (if (escS (c::l)).1=true then up (escS (c::l)).2 (prtF f q ((c::l).drop (escS (c::l)).2)) else escS (c::l))
  else up (nx (c::l)).2.toNat (prtF f q ((c::l).drop (nx (c::l)).2.toNat))
theorem ax0: ∀(f g:Nat) (q:UInt8) (l:List UInt8),l.length≤f→l.length≤g→prtF f q l=prtF g q l
 |0,g,q,l,h,_=>by
  have:l= []:=List.length_eq_zero_iff.1 (by omega)
  subst this
  cases g<;>rfl
 |f+1,0,q,l,_,h=>by
  have:l= []:=List.length_eq_zero_iff.1 (by omega)
  subst this
  rfl
 |f+1,g+1,q,[],_,_=>rfl
 |f+1,g+1,q,c::l,h1,h2=>by
  rw [prtF,prtF]
  have he:=aK9 (l:=c::l) (by simp)
  rw [ax0 f g q ((c::l).drop (escS (c::l)).2) (by rw [List.length_drop];omega) (by rw [List.length_drop];omega)]
  by_cases hn:(nx (c::l)).2<0∨(nx (c::l)).1=10∨(nx (c::l)).1=13
  ·simp only [if_pos hn]
  ·obtain⟨n,e,e2,_,e3⟩:=aj0 (l:=c::l) (by omega)
   have hn0:n≠0:=fun h=>by
    have:=e3.2 h
    cases this
   rw [ax0 f g q ((c::l).drop (nx (c::l)).2.toNat) (by rw [List.length_drop,e,Int.toNat_natCast];omega) (by rw [List.length_drop,e,Int.toNat_natCast];omega)]
def prt (q:UInt8) (l:List UInt8):Bool × Nat:=prtF l.length q l
theorem bF4 (q:UInt8):prt q []=(true,0):=rfl
theorem by0 (q c:UInt8) (l:List UInt8):prt q (c::l)=
  if c=q then (true,0)
  else if (nx (c::l)).2<0∨(nx (c::l)).1=10∨(nx (c::l)).1=13 then (false,0)
  else if (nx (c::l)).1=92 then (if (escS (c::l)).1=true then up (escS (c::l)).2 (prt q ((c::l).drop (escS (c::l)).2)) else escS (c::l))
  else up (nx (c::l)).2.toNat (prt q ((c::l).drop (nx (c::l)).2.toNat)):=by
 unfold prt
 rw [List.length_cons,prtF]
 have he:=aK9 (l:=c::l) (by simp)
 rw [List.length_cons] at he
 rw [ax0 l.length ((c::l).drop (escS (c::l)).2).length q ((c::l).drop (escS (c::l)).2) (by rw [List.length_drop,List.length_cons];omega) (Nat.le_refl _)]
 by_cases hn:(nx (c::l)).2<0∨(nx (c::l)).1=10∨(nx (c::l)).1=13
 ·simp only [if_pos hn]
 ·obtain⟨n,e,e2,_,e3⟩:=aj0 (l:=c::l) (by omega)
  have hn0:n≠0:=fun h=>by
   have:=e3.2 h
   cases this
  rw [ax0 l.length ((c::l).drop (nx (c::l)).2.toNat).length q ((c::l).drop (nx (c::l)).2.toNat) (by rw [List.length_drop,e,Int.toNat_natCast,List.length_cons];omega) (Nat.le_refl _)]
theorem aT9: ∀(f:Nat) (q:UInt8) (l:List UInt8),(prtF f q l).2≤l.length
 |0,_,_=>Nat.zero_le _
 |_+1,_,[]=>Nat.zero_le _
 |f+1,q,c::l=>by
  rw [prtF]
  have he:=aK9 (l:=c::l) (by simp)
  have h1:=aT9 f q ((c::l).drop (escS (c::l)).2)
  rw [List.length_drop] at h1
  split
  ·exact Nat.zero_le _
  ·split
   ·exact Nat.zero_le _
   ·rename_i hn
    obtain⟨n,e,e2,_,e3⟩:=aj0 (l:=c::l) (by omega)
    have h2:=aT9 f q ((c::l).drop (nx (c::l)).2.toNat)
    rw [List.length_drop,e,Int.toNat_natCast] at h2
    split
    ·split
     ·simp only [up];omega
     ·exact he.1
    ·simp only [up]
     rw [e,Int.toNat_natCast]
     omega
theorem bK1 (q:UInt8) (l:List UInt8):(prt q l).2≤l.length:=aT9 _ _ _
def strC:List UInt8→Bool × Nat
 | []=>(false,0)
 |q::l=>if q≠39∧q≠34 then (false,0)
  else if (prt q l).1=false then (false,1+(prt q l).2)
  else if 1+(prt q l).2=l.length then (true,0)
  else (false,min (2+(prt q l).2) (l.length+1))
theorem bG4 (l:List UInt8):(strC l).2≤l.length:=by
 cases l with
 |nil=>exact Nat.le_refl _
 |cons q l=>
  have:=bK1 q l
  rw [strC]
  split
  ·exact Nat.zero_le _
  ·split
   ·simp;omega
   ·split
    ·exact Nat.zero_le _
    ·simp;omega
def scF:Nat→UInt8→List UInt8→Nat
 |0,_,_=>0
 |_+1,_,[]=>0
 |f+1,q,c::l=>
  if c=q∨c=10∨c=13 then 0
  else if c=92 then (if Lib.hasPrefix l [13,10]=true then 3+scF f q (l.drop 2) else 2+scF f q (l.drop 1))
  else 1+scF f q l
theorem ax3: ∀(f g:Nat) (q:UInt8) (l:List UInt8),l.length≤f→l.length≤g→scF f q l=scF g q l
 |0,g,q,l,h,_=>by
  have:l= []:=List.length_eq_zero_iff.1 (by omega)
  subst this
  cases g<;>rfl
 |f+1,0,q,l,_,h=>by
  have:l= []:=List.length_eq_zero_iff.1 (by omega)
  subst this
  rfl
 |f+1,g+1,q,[],_,_=>rfl
 |f+1,g+1,q,c::l,h1,h2=>by
  rw [List.length_cons] at h1 h2
  rw [scF,scF,ax3 f g q l (by omega) (by omega),ax3 f g q (l.drop 2) (by rw [List.length_drop];omega) (by rw [List.length_drop];omega),ax3 f g q (l.drop 1) (by rw [List.length_drop];omega) (by rw [List.length_drop];omega)]
def sc (q:UInt8) (l:List UInt8):Nat:=scF l.length q l
theorem bp3 (q c:UInt8) (l:List UInt8):sc q (c::l)=
  if c=q∨c=10∨c=13 then 0
  else if c=92 then (if Lib.hasPrefix l [13,10]=true then 3+sc q (l.drop 2) else 2+sc q (l.drop 1))
  else 1+sc q l:=by
 unfold sc
 rw [List.length_cons,scF,ax3 l.length (l.drop 2).length q (l.drop 2) (by rw [List.length_drop];omega) (Nat.le_refl _),ax3 l.length (l.drop 1).length q (l.drop 1) (by rw [List.length_drop];omega) (Nat.le_refl _)]
end
section
open Go.RowKit
theorem bp0 {a b:Int} (h:a=b):Ending.returned (.int .i64 a)= .returned (.int .i64 b):=by rw [h]
theorem aM0 (c:UInt8) (w:World):
  Calls Tryz.prog 259 #[.int .u8 c.toNat] w fun e w'=>e= .returned (.int .i64 (hexD c))∧w=w':=by
 have hc:=c.toNat_lt
 go_enter Tryz.func259,Tryz.ntmps259
 go_wp2
 all_goals
  go_ret
  refine⟨bp0 ?_,rfl⟩
  unfold hexD
  repeat' split
  all_goals omega
theorem bE9 (m d:Nat) (hm:m≤1114112) (hd:d<16):bits BinOp.or IntKind.i64 ((m:Int)*16) (d:Int)=(m:Int)*16+d:=by
 have h1:(m*16)|||d=m*16+d:=by
  have:=Nat.two_pow_add_eq_or_of_lt (i:=4) (b:=d) (by omega) m
  rw [show (2:Nat) ^ 4*m=m*16 by omega] at this
  omega
 have e:IntKind.i64.bits=64:=rfl
 simp only [bits,BitVec.toNat_or,BitVec.toNat_ofInt,e]
 rw [show ((m:Int)*16 % ((2 ^ 64:Nat):Int)).toNat=m*16 by omega,show((d:Int) % ((2 ^ 64:Nat):Int)).toNat=d by omega,h1]
 rw [IntWalk.i64_in _ (by omega)]
 omega
theorem ret3 {x a b:Int} {f g:Bool} (h:a=b) (k:f=g):Ending.returned (.tuple #[.int .i64 x,.int .i64 a,.bool f])= .returned (.tuple #[.int .i64 x,.int .i64 b,.bool g]):=by rw [h,k]
theorem ay4 (s:ByteArray) (p m:Nat) (w:World) (hs:s.size≤16777216) (hp:p≤s.size) (hm:m≤4) (z zm:Int) (hz:z=p) (hzm:zm=m):
  Calls Tryz.prog 225 #[.string s,.int .i64 z,.int .i64 zm] w fun e w'=>(∃x:Int,e= .returned (.tuple #[.int .i64 x,.int .i64 ((p+(digN m (s.data.toList.drop p)).2:Nat):Int),.bool (digN m (s.data.toList.drop p)).1]))∧w=w':=by
 subst hz
 subst hzm
 go_enter Tryz.func225,Tryz.ntmps225
 go_wp2
 go_loop [1,9,11] (fun a x i=> ∃j X k:Nat,k=p+j∧j≤m∧k≤s.size∧X<16 ^ j∧a= .int .i64 (k:Nat)∧x= .int .i64 (X:Nat)∧i= .int .i64 (j:Nat)∧digN m (s.data.toList.drop p)=up j (digN (m - j) (s.data.toList.drop k))) (fun _ _ i=>m - (intOf i).toNat)
 case atStart=>exact⟨0,0,p,rfl,Nat.zero_le _,hp,by decide,rfl,rfl,rfl,by rw [aY2];rfl⟩
 case round=>
  obtain⟨j,X,k,hkj,hj,hpj,hX,rfl,rfl,rfl,hg⟩:=hrel
  have HG:=hJ hg
  have HKJ:=hJ hkj
  have hX4:X<65536:=Nat.lt_of_lt_of_le hX (Nat.le_trans (Nat.pow_le_pow_right (by decide) (show j≤4 by omega)) (Nat.le_refl (16 ^ 4)))
  have HX:=hJ hX
  clear hg hkj hX
  by_cases hjm:j<m
  ·by_cases hlt:k<s.size
   ·have hx:=ac5 s k hlt
    have hle:=aL0 s[k]
    have hH:=fun W=>aM0 s[k] W
    by_cases hd:0≤hexD s[k]
    ·obtain⟨d,hd'⟩: ∃d:Nat,hexD s[k]=d:=⟨_,(Int.toNat_of_nonneg hd).symm⟩
     have hd16:d<16:=by omega
     have ho:=bE9 X d (by omega) hd16
     have HN:=hJ (show digN m (s.data.toList.drop p)=up (j+1) (digN (m - (j+1)) (s.data.toList.drop (k+1))) by
      rw [HG.out,hx,show m - j=(m - (j+1))+1 by omega,digN,if_pos hd,bz0])
     rw [hd'] at hH
     have HH:=hJ hH
     clear hH hx hle hd hd' HG
     go_wp2_with (go_at_call 259;refine(HH.out _).mono ?_;rintro e w' ⟨rfl,rfl⟩)
     go_round
     case rel=>exact⟨j+1,X*16+d,k+1,by have:=HKJ.out;omega,by omega,by omega,by have:=HX.out;rw [Nat.pow_succ];omega,by go_num,by first|go_num|(congr 1;omega),by go_num,HN.out⟩
     case measure=>simp [intOf];omega
    ·have HN:=hJ (show digN m (s.data.toList.drop p)=(false,j) by
      rw [HG.out,hx,show m - j=(m - (j+1))+1 by omega,digN,if_neg hd];try rfl)
     have hd0:hexD s[k]<0:=by omega
     generalize hexD s[k]=dv at*
     have HH:=hJ hH
     clear hH hx hle hd HG
     go_wp2_with (go_at_call 259;refine(HH.out _).mono ?_;rintro e w' ⟨rfl,rfl⟩)
     go_ret3
     exact⟨⟨_,ret3 (by rw [HN.out];simp only;have:=HKJ.out;omega) (by rw [HN.out])⟩,rfl⟩
   ·obtain rfl:k=s.size:=by omega
    have HN:=hJ (show digN m (s.data.toList.drop p)=(false,j) by
     rw [HG.out,av5,show m - j=(m - (j+1))+1 by omega,digN];try rfl)
    clear HG
    go_wp2
    go_ret3
    exact⟨⟨_,ret3 (by rw [HN.out];simp only;have:=HKJ.out;omega) (by rw [HN.out])⟩,rfl⟩
  ·obtain rfl:j=m:=by omega
   have HN:=hJ (show digN j (s.data.toList.drop p)=(true,j) by rw [HG.out,Nat.sub_self];cases s.data.toList.drop k<;>rfl)
   clear HG
   go_wp2
   go_ret3
   exact⟨⟨_,ret3 (by rw [HN.out];simp only;have:=HKJ.out;omega) (by rw [HN.out])⟩,rfl⟩
theorem bd1 (s:ByteArray) (p:Nat) (w:World) (hs:s.size≤16777216) (hp:p≤s.size) (z:Int) (hz:z=p):
  Calls Tryz.prog 226 #[.string s,.int .i64 z] w fun e w'=>(∃x:Int,e= .returned (.tuple #[.int .i64 x,.int .i64 ((p+(brcN 0 true (s.data.toList.drop p)).2:Nat):Int),.bool (brcN 0 true (s.data.toList.drop p)).1]))∧w=w':=by
 subst hz
 go_enter Tryz.func226,Tryz.ntmps226
 go_wp2
 go_loop [1,7,15,35] (fun a x _ _=> ∃k X:Nat,p≤k∧k≤s.size∧X≤1114112∧a= .int .i64 (k:Nat)∧x= .int .i64 (X:Nat)∧brcN 0 true (s.data.toList.drop p)=up (k - p) (brcN X (decide (k=p)) (s.data.toList.drop k))) (fun a _ _ _=>s.size - (intOf a).toNat)
 case atStart=>exact⟨p,0,Nat.le_refl _,hp,by decide,rfl,rfl,by rw [Nat.sub_self,aY2,decide_eq_true rfl];rfl⟩
 case round=>
  obtain⟨k,X,hpk,hk,hX,rfl,rfl,hg⟩:=hrel
  have HG:=hJ hg
  clear hg
  by_cases hlt:k<s.size
  ·have hx:=ac5 s k hlt
   have hle:=aL0 s[k]
   have hH:=fun W=>aM0 s[k] W
   by_cases hd:0≤hexD s[k]
   ·obtain⟨d,hd'⟩: ∃d:Nat,hexD s[k]=d:=⟨_,(Int.toNat_of_nonneg hd).symm⟩
    have hd16:d<16:=by omega
    have ho:=bE9 X d hX hd16
    have HN:=hJ (show brcN 0 true (s.data.toList.drop p)=up (k+1 - p) (brcN (min (X*16+d) 1114112:Nat) (decide (k+1=p)) (s.data.toList.drop (k+1))) by
     rw [HG.out,hx,brcN,if_pos hd,bz0,hd',decide_eq_false (show¬k+1=p by omega),show k - p+1=k+1 - p by omega]
     congr 2
     omega)
    rw [hd'] at hH
    have HH:=hJ hH
    clear hH hx hle hd hd' HG
    go_wp2_with (go_at_call 259;refine(HH.out _).mono ?_;rintro e w' ⟨rfl,rfl⟩)
    go_round
    case rel=>exact⟨k+1,min (X*16+d) 1114112,by omega,by omega,by omega,by go_num,by first|go_num|(congr 1;omega),HN.out⟩
    case measure=>simp [intOf];omega
   ·have HG2:=hJ (show brcN 0 true (s.data.toList.drop p)=up (k - p) (if s[k]≠125∨decide (k=p)=true∨1114111<(X:Int) then (false,0) else (true,1)) by
     rw [HG.out,hx,brcN,if_neg hd])
    have hd0:hexD s[k]<0:=by omega
    generalize hexD s[k]=dv at*
    have HH:=hJ hH
    clear hH hx hle hd HG
    by_cases h125:s[k]=125
    ·have b1:(((s[k].toNat:Nat):Int) !=125)=false:=by rw [bne_eq_false_iff_eq,h125];rfl
     by_cases hkp:k=p
     ·have HN:=hJ (show brcN 0 true (s.data.toList.drop p)=(false,k - p) by rw [HG2.out,if_pos (.inr (.inl (decide_eq_true hkp)))];rfl)
      clear HG2 h125
      subst hkp
      go_wp2_with (go_at_call 259;refine(HH.out _).mono ?_;rintro e w' ⟨rfl,rfl⟩)
      go_ret3
      exact⟨⟨_,ret3 (by rw [HN.out];simp only;omega) (by rw [HN.out])⟩,rfl⟩
     ·have b2:(((k:Nat):Int)==((p:Nat):Int))=false:=by rw [beq_eq_false_iff_ne];omega
      by_cases hX1:1114111<X
      ·have HN:=hJ (show brcN 0 true (s.data.toList.drop p)=(false,k - p) by rw [HG2.out,if_pos (.inr (.inr (by omega)))];rfl)
       clear HG2 h125 hkp
       go_wp2_with (go_at_call 259;refine(HH.out _).mono ?_;rintro e w' ⟨rfl,rfl⟩)
       go_ret3
       exact⟨⟨_,ret3 (by rw [HN.out];simp only;omega) (by rw [HN.out])⟩,rfl⟩
      ·have HN:=hJ (show brcN 0 true (s.data.toList.drop p)=(true,k - p+1) by rw [HG2.out,if_neg (by rintro(h|h|h);exact h h125;exact hkp (of_decide_eq_true h);omega)];rfl)
       clear HG2 h125 hkp
       go_wp2_with (go_at_call 259;refine(HH.out _).mono ?_;rintro e w' ⟨rfl,rfl⟩)
       go_ret3
       exact⟨⟨_,ret3 (by rw [HN.out];simp only;omega) (by rw [HN.out])⟩,rfl⟩
    ·have b1:(((s[k].toNat:Nat):Int) !=125)=true:=by rw [bne_iff_ne];exact fun e=>h125 (UInt8.toNat.inj (by rw [show s[k].toNat=125 by omega];rfl))
     have HN:=hJ (show brcN 0 true (s.data.toList.drop p)=(false,k - p) by rw [HG2.out,if_pos (.inl h125)];rfl)
     clear HG2 h125
     go_wp2_with (go_at_call 259;refine(HH.out _).mono ?_;rintro e w' ⟨rfl,rfl⟩)
     go_ret3
     exact⟨⟨_,ret3 (by rw [HN.out];simp only;omega) (by rw [HN.out])⟩,rfl⟩
  ·obtain rfl:k=s.size:=by omega
   have HN:=hJ (show brcN 0 true (s.data.toList.drop p)=(false,s.size - p) by rw [HG.out,av5,brcN];try rfl)
   clear HG
   go_wp2
   go_ret3
   exact⟨⟨_,ret3 (by rw [HN.out];simp only;omega) (by rw [HN.out])⟩,rfl⟩
end
section
open Go.RowKit
theorem av8 (s:ByteArray) (i:Nat) (h:i<s.size):s.get! i=s[i]:=by have:=get_at s i h;simpa using this
theorem aS2 (s:ByteArray) (pos:Nat) (h:pos<s.size) (ha:128≤(s[pos]'h).toNat):
  1≤(Utf8.decode s pos).2∧pos+(Utf8.decode s pos).2≤s.size∧(128≤(Utf8.decode s pos).1∧(Utf8.decode s pos).1≤1114111∧((Utf8.decode s pos).1<55296∨57343<(Utf8.decode s pos).1))∧
   ∀j,j<(Utf8.decode s pos).2→∃hj:pos+j<s.size,128≤(s[pos+j]'hj).toNat:=by
 rw [Lib.decode_at,av8 s pos h]
 have hb1:=(s.get! (pos+1)).toNat_lt
 have hb2:=(s.get! (pos+2)).toNat_lt
 have hb3:=(s.get! (pos+3)).toNat_lt
 have hb0:=(s[pos]'h).toNat_lt
 have g1: ∀h1:pos+1<s.size,s.get! (pos+1)=s[pos+1]:=av8 s _
 have g2: ∀h1:pos+2<s.size,s.get! (pos+2)=s[pos+2]:=av8 s _
 have g3: ∀h1:pos+3<s.size,s.get! (pos+3)=s[pos+3]:=av8 s _
 have one:(1≤1∧pos+1≤s.size∧(128≤65533∧65533≤1114111∧(65533<55296∨57343<65533))∧∀j,j<1→∃hj:pos+j<s.size,128≤(s[pos+j]'hj).toNat):=by
  refine⟨by omega,by omega,by omega,fun j hj=> ?_⟩
  obtain rfl:j=0:=by omega
  exact⟨h,ha⟩
 have hd: ∀v n:Nat,1≤n→n≤4→pos+n≤s.size→(128≤v∧v≤1114111∧(v<55296∨57343<v))→(2≤n→128≤(s.get! (pos+1)).toNat)→(3≤n→128≤(s.get! (pos+2)).toNat)→(4≤n→128≤(s.get! (pos+3)).toNat)→
   (1≤n∧pos+n≤s.size∧(128≤v∧v≤1114111∧(v<55296∨57343<v))∧∀j,j<n→∃hj:pos+j<s.size,128≤(s[pos+j]'hj).toNat):=by
  intro v n h1 h4 hn hv a1 a2 a3
  refine⟨h1,hn,hv,fun j hj=> ?_⟩
  have hjs:pos+j<s.size:=by omega
  refine⟨hjs,?_⟩
  have:j=0∨j=1∨j=2∨j=3:=by omega
  rcases this with rfl|rfl|rfl|rfl
  ·exact ha
  ·rw [←g1 hjs];exact a1 (by omega)
  ·rw [←g2 hjs];exact a2 (by omega)
  ·rw [←g3 hjs];exact a3 (by omega)
 clear g1 g2 g3
 generalize (s[pos]'h).toNat=b0 at*
 generalize (s.get! (pos+1)).toNat=b1 at*
 generalize (s.get! (pos+2)).toNat=b2 at*
 generalize (s.get! (pos+3)).toNat=b3 at*
 unfold Lib.decodeN
 split
 ·omega
 ·split
  ·rename_i hc
   split
   ·exact hd _ 2 (by omega) (by omega) (by omega) (by omega) (by omega) (by omega) (by omega)
   ·exact one
  ·split
   ·rename_i hc
    split
    ·exact hd _ 3 (by omega) (by omega) (by omega) (by omega) (by omega) (by omega) (by omega)
    ·exact one
   ·split
    ·rename_i hc
     split
     ·exact hd _ 4 (by omega) (by omega) (by omega) (by omega) (by omega) (by omega) (by omega)
     ·exact one
    ·exact one
theorem aI1 (s:ByteArray) (pos:Nat) (h:pos<s.size) (ha:(s[pos]'h).toNat<128):Utf8.decode s pos=((s[pos]'h).toNat,1):=by
 rw [Lib.decode_at,av8 s pos h,Lib.decodeN,if_pos ha]
def six:ByteArray:=⟨#[98,102,110,114,116,118]⟩
theorem bG3: ∀j:Fin 6,(six[j.val]'(by have:=j.2;exact this)).toNat<128:=by decide
theorem bK6 (j:Nat) (h:j<6):(six[j]'h).toNat<128:=bG3 ⟨j,h⟩
theorem bI1 (c:UInt8) (h:128≤c.toNat):Lib.indexByte (({ data:= #[98,102,110,114,116,118] } :ByteArray).extract 2 6).data.toList c= -1:=by
 have h0: ∀c:Fin 256,128≤c.val→Lib.indexByte (({ data:= #[98,102,110,114,116,118] } :ByteArray).extract 2 6).data.toList c.val.toUInt8= -1:=by decide+kernel
 have:=h0 ⟨c.toNat,c.toNat_lt⟩ h
 simpa using this
theorem bI2 (c:UInt8) (h:128≤c.toNat):Lib.indexByte (({ data:= #[98,102,110,114,116,118] } :ByteArray).extract 3 6).data.toList c= -1:=by
 have h0: ∀c:Fin 256,128≤c.val→Lib.indexByte (({ data:= #[98,102,110,114,116,118] } :ByteArray).extract 3 6).data.toList c.val.toUInt8= -1:=by decide+kernel
 have:=h0 ⟨c.toNat,c.toNat_lt⟩ h
 simpa using this
theorem bI3 (c:UInt8) (h:128≤c.toNat):Lib.indexByte (({ data:= #[98,102,110,114,116,118] } :ByteArray).extract 4 6).data.toList c= -1:=by
 have h0: ∀c:Fin 256,128≤c.val→Lib.indexByte (({ data:= #[98,102,110,114,116,118] } :ByteArray).extract 4 6).data.toList c.val.toUInt8= -1:=by decide+kernel
 have:=h0 ⟨c.toNat,c.toNat_lt⟩ h
 simpa using this
theorem aH0 (r:Nat) (h0:128≤r) (h1:r≤1114111) (h2:r<55296∨57343<r) (h3:r≠65533) (w:World):
  Calls Tryz.prog 188 #[.string ⟨#[98,102,110,114,116,118]⟩,.int .i32 r] w fun e w'=>e= .returned (.int .i64 (-1))∧Below w.heap.size w w':=by
 have hv:=hJ (show Lib.validRune (r:Int)=true by simp [Lib.validRune];omega)
 have h3':((r:Int)==65533)=false:=by rw [beq_eq_false_iff_ne];omega
 have hva:Utf8.valid (r:Int)=true:=by simp [Utf8.valid];omega
 obtain⟨hz2,hz4,hb⟩:=encode_facts (r:Int) hva (by omega)
 clear hva
 generalize hrs:Utf8.encode (r:Int)=rs at*
 clear h1 h2 h3
 have hlast:128≤(rs[rs.size - 1]'(by omega)).toNat:=hb (by omega)
 clear hb
 go_enter Tryz.func188,Tryz.ntmps188
 go_wp2_with (go_at_call 233;refine(Tryz.utf8_ValidRune _ _).mono ?_;rintro e w' ⟨rfl,rfl⟩;rw [hv.out])
 clear hv h3' h0
 go_step3
 have hzc:rs.size=2∨rs.size=3∨rs.size=4:=by omega
 rcases hzc with hz|hz|hz
 ·have hb1:128≤(rs[1]'(by omega)).toNat:=by simpa [hz] using hlast
  clear hlast
  go_wp2_with fail
  refine wp_loop_rounds 1 ?_
  rw [rounds_succ]
  go_wp2_with fail
  go_step3
  have hne:((((⟨#[98,102,110,114,116,118]⟩:ByteArray)[1]'(by decide)).toNat:Int) !=(rs[1].toNat:Int))=true:=by
   rw [bne_iff_ne]
   show(102:Int)≠_
   omega
  go_wp2_with fail
  go_quiet (fail)
  go_wp2_with fail
  clear hne
  generalize hwq:w'.drewN _=wq
  have hbq:Below w'.heap.size w' wq:=by rw [←hwq];exact aa3 (Below.refl _ _) _
  clear hwq
  have hib:Lib.indexByte (({ data:= #[98,102,110,114,116,118] } :ByteArray).extract 2 6).data.toList (rs[1].toNat:Int).toNat.toUInt8= -1:=by
   rw [show ((rs[1].toNat:Int)).toNat.toUInt8=rs[1] by simp]
   exact bI1 rs[1] hb1
  go_quiet ((go_at_call 95;exact Calls.quiet_of_same (Tryz.strings_IndexByte _ _ _)))
  rw [hib]
  clear hib
  go_wp2_with fail
  rw [Exit.noGoto_ret]
  go_wp2_with fail
  rw [Exit.noGoto_ret]
  go_ret
  exact⟨rfl,aa3 hbq _⟩
 ·have hb1:128≤(rs[2]'(by omega)).toNat:=by simpa [hz] using hlast
  clear hlast
  go_wp2_with fail
  refine wp_loop_rounds 1 ?_
  rw [rounds_succ]
  go_wp2_with fail
  go_step3
  have hne:((((⟨#[98,102,110,114,116,118]⟩:ByteArray)[2]'(by decide)).toNat:Int) !=(rs[2].toNat:Int))=true:=by
   rw [bne_iff_ne]
   show(110:Int)≠_
   omega
  go_wp2_with fail
  go_quiet (fail)
  go_wp2_with fail
  clear hne
  generalize hwq:w'.drewN _=wq
  have hbq:Below w'.heap.size w' wq:=by rw [←hwq];exact aa3 (Below.refl _ _) _
  clear hwq
  have hib:Lib.indexByte (({ data:= #[98,102,110,114,116,118] } :ByteArray).extract 3 6).data.toList (rs[2].toNat:Int).toNat.toUInt8= -1:=by
   rw [show ((rs[2].toNat:Int)).toNat.toUInt8=rs[2] by simp]
   exact bI2 rs[2] hb1
  go_quiet ((go_at_call 95;exact Calls.quiet_of_same (Tryz.strings_IndexByte _ _ _)))
  rw [hib]
  clear hib
  go_wp2_with fail
  rw [Exit.noGoto_ret]
  go_wp2_with fail
  rw [Exit.noGoto_ret]
  go_ret
  exact⟨rfl,aa3 hbq _⟩
 ·have hb1:128≤(rs[3]'(by omega)).toNat:=by simpa [hz] using hlast
  clear hlast
  go_wp2_with fail
  refine wp_loop_rounds 1 ?_
  rw [rounds_succ]
  go_wp2_with fail
  go_step3
  have hne:((((⟨#[98,102,110,114,116,118]⟩:ByteArray)[3]'(by decide)).toNat:Int) !=(rs[3].toNat:Int))=true:=by
   rw [bne_iff_ne]
   show(114:Int)≠_
   omega
  go_wp2_with fail
  go_quiet (fail)
  go_wp2_with fail
  clear hne
  generalize hwq:w'.drewN _=wq
  have hbq:Below w'.heap.size w' wq:=by rw [←hwq];exact aa3 (Below.refl _ _) _
  clear hwq
  have hib:Lib.indexByte (({ data:= #[98,102,110,114,116,118] } :ByteArray).extract 4 6).data.toList (rs[3].toNat:Int).toNat.toUInt8= -1:=by
   rw [show ((rs[3].toNat:Int)).toNat.toUInt8=rs[3] by simp]
   exact bI3 rs[3] hb1
  go_quiet ((go_at_call 95;exact Calls.quiet_of_same (Tryz.strings_IndexByte _ _ _)))
  rw [hib]
  clear hib
  go_wp2_with fail
  rw [Exit.noGoto_ret]
  go_wp2_with fail
  rw [Exit.noGoto_ret]
  go_ret
  exact⟨rfl,aa3 hbq _⟩
theorem aG9 (w:World):
  Calls Tryz.prog 188 #[.string six,.int .i32 65533] w fun e w'=>e= .returned (.int .i64 (-1))∧Below w.heap.size w w':=by
 obtain⟨s,hs6⟩: ∃s,six=s:=⟨_,rfl⟩
 have hsz:s.size=6:=by rw [←hs6];rfl
 have hlow: ∀j (h:j<s.size),s[j].toNat<128:=by subst hs6;exact bK6
 rw [hs6]
 clear hs6
 have HL:=hJ hlow
 clear hlow
 go_enter Tryz.func188,Tryz.ntmps188
 go_wp2_with fail
 go_loopw [5,6] (fun _ _ wx=> ∃i:Nat,i≤s.size∧wx.heap[w.heap.size]? =some (.stringIter s i)∧Below w.heap.size w wx∧w.heap.size<wx.heap.size) (fun _ _ wx=>s.size - wx.iterPos w.heap.size)
 case atStart=>exact⟨0,by omega,World.iter_heap _ _ _,(Below.refl _ _).alloc (Nat.le_refl _) _,by show _<(w.heap.push _).size;simp⟩
 case round=>
  obtain⟨i,hi,hk,hb,hlt⟩:=hrel
  by_cases hlts:i<s.size
  ·have hnx:=fun ty=>Lib.run_next_any_at (P:=Tryz.prog) wr _ s i ty hk hlts
   have hl:=HL.out i hlts
   rw [aI1 s i hlts hl] at hnx
   have b1:((s[i].toNat:Int)==65533)=false:=by rw [beq_eq_false_iff_ne];omega
   simp only at hnx
   have hk2:=Lib.iterAt_heap wr _ s i (i+1) hk
   have hb2:Below w.heap.size w (wr.iterAt w.heap.size s (i+1)):=Lib.below_iterAt hb (Nat.le_refl _) _ _
   have hl2:w.heap.size<(wr.iterAt w.heap.size s (i+1)).heap.size:=by rw [Lib.iterAt_size];exact hlt
   generalize wr.iterAt w.heap.size s (i+1)=w2 at*
   have HK:=hJ hk2
   have HKr:=hJ hk
   clear hk hk2 hb
   go_wp2_with fail
   go_roundw
   case rel=>exact⟨i+1,by omega,HK.out,hb2,hl2⟩
   case measure=>simp [World.iterPos,HK.out,HKr.out];omega
  ·obtain rfl:i=s.size:=by omega
   have hnx:=fun ty=>Lib.run_next_end_at (P:=Tryz.prog) wr _ s s.size ty hk (by omega)
   go_wp2_with fail
   go_ret
   exact⟨rfl,hb⟩
theorem bK7 (i:Int) (h:0≤i) (h':i<6): ∃x:Int,∀W,(Instr.index 258 (.agg #[.int .i64 8,.int .i64 12,.int .i64 10,.int .i64 13,.int .i64 9,.int .i64 11]) (.int .i64 i)).run Tryz.prog W= .ok (.int .i64 x) W:=by
 have hc:i=0∨i=1∨i=2∨i=3∨i=4∨i=5:=by omega
 rcases hc with rfl|rfl|rfl|rfl|rfl|rfl
 ·exact⟨8,fun W=>by simp [Instr.index,run_underlying Tryz.underlying258,asIntOf,go_sem]⟩
 ·exact⟨12,fun W=>by simp [Instr.index,run_underlying Tryz.underlying258,asIntOf,go_sem]⟩
 ·exact⟨10,fun W=>by simp [Instr.index,run_underlying Tryz.underlying258,asIntOf,go_sem]⟩
 ·exact⟨13,fun W=>by simp [Instr.index,run_underlying Tryz.underlying258,asIntOf,go_sem]⟩
 ·exact⟨9,fun W=>by simp [Instr.index,run_underlying Tryz.underlying258,asIntOf,go_sem]⟩
 ·exact⟨11,fun W=>by simp [Instr.index,run_underlying Tryz.underlying258,asIntOf,go_sem]⟩
theorem aJ4 (r:Int) (h0:0≤r) (h1:r≤1114111) (h2:r<55296∨57343<r) (w:World):
  Calls Tryz.prog 227 #[.int .i32 r] w fun e w'=>(∃x:Int,e= .returned (.int .i64 x))∧Below w.heap.size w w':=by
 have hI: ∃i:Int,i<6∧∀W,Calls Tryz.prog 188 #[.string six,.int .i32 r] W fun e w'=>e= .returned (.int .i64 i)∧Below W.heap.size W w':=by
  by_cases h3:r<128
  ·refine⟨Lib.indexByte six.data.toList r.toNat.toUInt8,?_,fun W=>((Tryz.strings_IndexRune_ascii six r W h0 h3).mono ?_)⟩
   ·have: ∀c:Fin 256,Lib.indexByte six.data.toList c.val.toUInt8<6:=by decide+kernel
    exact this ⟨r.toNat,by omega⟩
   ·rintro e w' ⟨rfl,rfl⟩
    exact⟨rfl,Below.refl _ _⟩
  ·obtain⟨n,rfl⟩: ∃n:Nat,r=n:=⟨_,(Int.toNat_of_nonneg h0).symm⟩
   by_cases h4:n=65533
   ·subst h4
    exact⟨-1,by decide,fun W=>aG9 W⟩
   ·exact⟨-1,by decide,fun W=>aH0 n (by omega) (by omega) (by omega) h4 W⟩
 obtain⟨i,hi,hI⟩:=hI
 unfold six at hI
 have HI:=hJ hI
 clear hI h0 h1 h2
 go_enter Tryz.func227,Tryz.ntmps227
 by_cases h0:0≤i
 ·obtain⟨x,hx⟩:=bK7 i h0 hi
  go_wp2_with (go_at_call 188;refine(HI.out _).mono ?_;rintro e w' ⟨rfl,hb⟩)
  go_ret
  exact⟨⟨_,rfl⟩,hb⟩
 ·go_wp2_with (go_at_call 188;refine(HI.out _).mono ?_;rintro e w' ⟨rfl,hb⟩)
  go_ret
  exact⟨⟨_,rfl⟩,hb⟩
theorem bE7 {l:List UInt8} (h:0≤(nx l).2):0≤(nx l).1∧(nx l).1≤1114111∧((nx l).1<55296∨57343<(nx l).1):=by
 by_cases hl:l= []
 ·subst hl
  exact⟨by decide,by decide,by decide⟩
 ·unfold nx at h⊢
  by_cases e:(Lib.decodeGo ⟨l.toArray⟩).1=65533∧(Lib.decodeGo ⟨l.toArray⟩).2=1
  ·simp only [if_pos e] at h
   omega
  ·simp only [if_neg e]
   have hs:0<(⟨l.toArray⟩:ByteArray).size:=List.length_pos_iff.2 hl
   have hd:Lib.decodeGo ⟨l.toArray⟩=Utf8.decode ⟨l.toArray⟩ 0:=by
    unfold Lib.decodeGo
    rw [if_neg (by omega)]
   rw [hd]
   by_cases h1:((⟨l.toArray⟩:ByteArray)[0]'hs).toNat<128
   ·rw [aI1 _ 0 hs h1]
    simp only
    omega
   ·have:=(aS2 ⟨l.toArray⟩ 0 hs (by omega)).2.2.1
    omega
end
section
open Go.RowKit
def escV (c n:Int) (l2 l3:List UInt8):Bool × Nat:=
 if n≤0 then (false,1)
 else if 49≤c∧c≤57 then (false,1)
 else if c=48 then (if ak5 l2=true then (false,2) else (true,2))
 else if c=120 then up 2 (digN 2 l2)
 else if c=117 then (if Lib.hasPrefix l2 [123]=true then up 3 (brcN 0 true l3) else up 2 (digN 4 l2))
 else if c=13∧Lib.hasPrefix l2 [10]=true then (true,3)
 else (true,1+n.toNat)
theorem bC4 (l:List UInt8):escS l=escV (nx (l.drop 1)).1 (nx (l.drop 1)).2 (l.drop 2) (l.drop 3):=rfl
theorem hp1 (s:ByteArray) (k:Nat) (a:UInt8) (h:k<s.size):Lib.hasPrefix (s.data.toList.drop k) [a]=(s[k]==a):=by
 rw [ac5 s k h]
 show(a==s[k] && true)=(s[k]==a)
 rw [Bool.and_true,Bool.eq_iff_iff,beq_iff_eq,beq_iff_eq]
 exact eq_comm
theorem bk6 (s:ByteArray) (k:Nat) (a:UInt8) (h:s.size≤k):Lib.hasPrefix (s.data.toList.drop k) [a]=false:=by
 rw [List.drop_of_length_le (by rw [ofl];exact h)]
 rfl
theorem bs3 (s:ByteArray) (k:Nat) (h:k<s.size):ak5 (s.data.toList.drop k)=decide (48≤s[k].toNat∧s[k].toNat≤57):=by rw [ac5 s k h];rfl
theorem bj7 (s:ByteArray) (k:Nat) (h:s.size≤k):ak5 (s.data.toList.drop k)=false:=by
 rw [List.drop_of_length_le (by rw [ofl];exact h)]
 rfl
theorem av4 (s:ByteArray) (p:Nat):nx (s.data.toList.drop p)=if (Lib.decodeGo (s.extract p s.size)).1=65533∧(Lib.decodeGo (s.extract p s.size)).2=1 then (((0:Int),(-1:Int)):Int × Int) else (((Lib.decodeGo (s.extract p s.size)).1:Int),((Lib.decodeGo (s.extract p s.size)).2:Int)):=by
 unfold nx
 rw [ab9 (s.extract p s.size) (s.data.toList.drop p) (af9 s p)]
theorem bd7 (s:ByteArray) (p:Nat) (w:World) (hs:s.size≤16777216) (hp:p<s.size) (hT:Lib.Utf8Tabs 3 4 w) (z:Int) (hz:z=p):
  Calls Tryz.prog 176 #[.string s,.int .i64 z] w fun e w'=>(∃x:Int,e= .returned (.tuple #[.int .i64 x,.int .i64 ((p+(escS (s.data.toList.drop p)).2:Nat):Int),.bool (escS (s.data.toList.drop p)).1]))∧Below w.heap.size w w':=by
 subst hz
 have hd:=Tryz.utf8_DecodeRuneInString (s.extract (p+1) s.size) w hT
 have hn:=av4 s (p+1)
 have hS:=bC4 (s.data.toList.drop p)
 rw [List.drop_drop,List.drop_drop,List.drop_drop] at hS
 have hru:=fun h=>bE7 (l:=s.data.toList.drop (p+1)) h
 have hpz:=fun h=>aj0 (l:=s.data.toList.drop (p+1)) h
 rw [List.length_drop,ofl] at hpz
 generalize nx (s.data.toList.drop (p+1))=q at*
 obtain⟨⟨c,n⟩,hcn⟩: ∃q,Lib.decodeGo (s.extract (p+1) s.size)=q:=⟨_,rfl⟩
 rw [hcn] at hd hn
 simp only at hd hn
 clear hcn hT
 have HD:=hJ hd
 clear hd
 generalize escS (s.data.toList.drop p)=E at*
 by_cases hbad:c=65533∧n=1
 ·rw [if_pos hbad] at hn
  subst hn
  obtain⟨rfl,rfl⟩:=hbad
  have HN:=hJ (show E=(false,1) from hS)
  clear hS hru hpz
  go_enter Tryz.func176,Tryz.ntmps176
  go_wp2_with (go_at_call 113;refine HD.out.mono ?_;rintro e w1 ⟨rfl,hb1⟩)
  go_ret3
  exact⟨⟨_,ret3 (by first|(rw [HN.out];done)|(rw [HN.out];omega)|(rw [HN.out];simp only [up];omega)) (by rw [HN.out];try rfl)⟩,hb1⟩
 ·rw [if_neg hbad] at hn
  subst hn
  simp only at hru hpz hS
  obtain⟨hr0,hr1,hr2⟩:=hru (by omega)
  obtain⟨n',hn',hn1,hn2,_⟩:=hpz (by omega)
  have hnl:n≤s.size - (p+1):=by omega
  have HB:=hJ hbad
  clear hbad hpz hru hn' hn1 hn2
  by_cases hn0:n=0
  ·subst hn0
   have HN:=hJ (show E=(false,1) from hS)
   clear hS
   go_enter Tryz.func176,Tryz.ntmps176
   go_wp2_with (go_at_call 113;refine HD.out.mono ?_;rintro e w1 ⟨rfl,hb1⟩)
   go_ret3
   exact⟨⟨_,ret3 (by first|(rw [HN.out];done)|(rw [HN.out];omega)|(rw [HN.out];simp only [up];omega)) (by rw [HN.out];try rfl)⟩,hb1⟩
  ·have hE:E=if 49≤(c:Int)∧(c:Int)≤57 then (false,1) else if (c:Int)=48 then (if ak5 (s.data.toList.drop (p+2))=true then (false,2) else (true,2)) else if (c:Int)=120 then up 2 (digN 2 (s.data.toList.drop (p+2))) else if (c:Int)=117 then (if Lib.hasPrefix (s.data.toList.drop (p+2)) [123]=true then up 3 (brcN 0 true (s.data.toList.drop (p+3))) else up 2 (digN 4 (s.data.toList.drop (p+2)))) else if (c:Int)=13∧Lib.hasPrefix (s.data.toList.drop (p+2)) [10]=true then (true,3) else (true,1+n):=by
    rw [hS,escV,if_neg (by omega),Int.toNat_natCast]
   have HE:=hJ hE
   clear hS hE
   have hbn:(((c:Nat):Int)==65533 && ((n:Nat):Int)==1)=false:=by
    rw [Bool.and_eq_false_iff,beq_eq_false_iff_ne,beq_eq_false_iff_ne]
    have:=HB.out
    omega
   have HBN:=hJ hbn
   clear hbn
   by_cases hlo:c<49
   ·have e3: ¬(49≤(c:Int)∧(c:Int)≤57):=by omega
    have hc5:((c:Nat):Int)≠65533:=by omega
    by_cases h48:c=48
    ·subst h48
     have hE:=HE.out
     rw [if_neg e3,if_pos (show((48:Nat):Int)=48 from rfl)] at hE
     have HE2:=hJ hE
     clear hE HE e3 hr0 hr1 hr2 HBN HB hc5
     by_cases hlt:p+1+1<s.size
     ·have hdg:ak5 (s.data.toList.drop (p+2))=decide (48≤s[p+1+1].toNat∧s[p+1+1].toNat≤57):=bs3 s (p+1+1) hlt
      by_cases d1:48≤s[p+1+1].toNat
      ·by_cases d2:s[p+1+1].toNat≤57
       ·have HN:=hJ (show E=(false,2) by rw [HE2.out,hdg,decide_eq_true ⟨d1,d2⟩];rfl)
        clear HE2 hdg
        go_enter Tryz.func176,Tryz.ntmps176
        go_wp2_with (go_at_call 113;refine HD.out.mono ?_;rintro e w1 ⟨rfl,hb1⟩)
        go_ret3
        exact⟨⟨_,ret3 (by first|(rw [HN.out];done)|(rw [HN.out];omega)|(rw [HN.out];simp only [up];omega)) (by rw [HN.out];try rfl)⟩,hb1⟩
       ·have HN:=hJ (show E=(true,2) by rw [HE2.out,hdg,decide_eq_false (fun h=>d2 h.2)];rfl)
        clear HE2 hdg
        go_enter Tryz.func176,Tryz.ntmps176
        go_wp2_with (go_at_call 113;refine HD.out.mono ?_;rintro e w1 ⟨rfl,hb1⟩)
        go_ret3
        exact⟨⟨_,ret3 (by first|(rw [HN.out];done)|(rw [HN.out];omega)|(rw [HN.out];simp only [up];omega)) (by rw [HN.out];try rfl)⟩,hb1⟩
      ·have HN:=hJ (show E=(true,2) by rw [HE2.out,hdg,decide_eq_false (fun h=>d1 h.1)];rfl)
       clear HE2 hdg
       go_enter Tryz.func176,Tryz.ntmps176
       go_wp2_with (go_at_call 113;refine HD.out.mono ?_;rintro e w1 ⟨rfl,hb1⟩)
       go_ret3
       exact⟨⟨_,ret3 (by first|(rw [HN.out];done)|(rw [HN.out];omega)|(rw [HN.out];simp only [up];omega)) (by rw [HN.out];try rfl)⟩,hb1⟩
     ·have HN:=hJ (show E=(true,2) by rw [HE2.out,bj7 s (p+2) (by omega)];rfl)
      clear HE2
      go_enter Tryz.func176,Tryz.ntmps176
      go_wp2_with (go_at_call 113;refine HD.out.mono ?_;rintro e w1 ⟨rfl,hb1⟩)
      go_ret3
      exact⟨⟨_,ret3 (by first|(rw [HN.out];done)|(rw [HN.out];omega)|(rw [HN.out];simp only [up];omega)) (by rw [HN.out];try rfl)⟩,hb1⟩
    ·by_cases h13:c=13
     ·subst h13
      have hE:=HE.out
      rw [if_neg e3,if_neg (by omega),if_neg (by omega),if_neg (by omega)] at hE
      have HE2:=hJ hE
      clear hE HE e3 hr0 hr1 hr2 HBN HB hc5 h48
      by_cases hlt:p+2<s.size
      ·have hdg:=hp1 s (p+2) 10 hlt
       by_cases d1:s[p+2]=10
       ·have HN:=hJ (show E=(true,3) by rw [HE2.out,if_pos ⟨rfl,by rw [hdg,d1];rfl⟩])
        have b1:(((s[p+2].toNat:Nat):Int)==10)=true:=aq9 (show s[p+2]=10 from d1)
        clear HE2 hdg d1
        go_enter Tryz.func176,Tryz.ntmps176
        go_wp2_with (go_at_call 113;refine HD.out.mono ?_;rintro e w1 ⟨rfl,hb1⟩)
        go_ret3
        exact⟨⟨_,ret3 (by first|(rw [HN.out];done)|(rw [HN.out];omega)|(rw [HN.out];simp only [up];omega)) (by rw [HN.out];try rfl)⟩,hb1⟩
       ·have HN:=hJ (show E=(true,1+n) by rw [HE2.out,if_neg (by rw [hdg];intro h;exact d1 (eq_of_beq h.2))])
        have b1:(((s[p+2].toNat:Nat):Int)==10)=false:=ap3 (show s[p+2]≠10 from d1)
        clear HE2 hdg d1
        go_enter Tryz.func176,Tryz.ntmps176
        go_wp2_with (go_at_call 113;refine HD.out.mono ?_;rintro e w1 ⟨rfl,hb1⟩)
        go_ret3
        exact⟨⟨_,ret3 (by first|(rw [HN.out];done)|(rw [HN.out];omega)|(rw [HN.out];simp only [up];omega)) (by rw [HN.out];try rfl)⟩,hb1⟩
      ·have HN:=hJ (show E=(true,1+n) by rw [HE2.out,if_neg (by rw [bk6 s (p+2) 10 (by omega)];intro h;exact absurd h.2 (by decide))])
       clear HE2
       go_enter Tryz.func176,Tryz.ntmps176
       go_wp2_with (go_at_call 113;refine HD.out.mono ?_;rintro e w1 ⟨rfl,hb1⟩)
       go_ret3
       exact⟨⟨_,ret3 (by first|(rw [HN.out];done)|(rw [HN.out];omega)|(rw [HN.out];simp only [up];omega)) (by rw [HN.out];try rfl)⟩,hb1⟩
     ·have HN:=hJ (show E=(true,1+n) by rw [HE.out,if_neg e3,if_neg (by omega),if_neg (by omega),if_neg (by omega),if_neg (fun h=>h13 (by have:=h.1;omega))])
      by_cases h10:c=10
      ·subst h10
       clear HE e3 hr0 hr1 hr2 HBN HB hc5 h48 h13
       go_enter Tryz.func176,Tryz.ntmps176
       go_wp2_with (go_at_call 113;refine HD.out.mono ?_;rintro e w1 ⟨rfl,hb1⟩)
       go_ret3
       exact⟨⟨_,ret3 (by first|(rw [HN.out];done)|(rw [HN.out];omega)|(rw [HN.out];simp only [up];omega)) (by rw [HN.out];try rfl)⟩,hb1⟩
      ·have HSI:=hJ (fun W=>aJ4 c hr0 hr1 hr2 W)
       have bf65533:(((c:Nat):Int)==65533)=false:=by rw [beq_eq_false_iff_ne];omega
       have bf48:(((c:Nat):Int)==48)=false:=by rw [beq_eq_false_iff_ne];omega
       have bf120:(((c:Nat):Int)==120)=false:=by rw [beq_eq_false_iff_ne];omega
       have bf117:(((c:Nat):Int)==117)=false:=by rw [beq_eq_false_iff_ne];omega
       have bf13:(((c:Nat):Int)==13)=false:=by rw [beq_eq_false_iff_ne];omega
       have bf10:(((c:Nat):Int)==10)=false:=by rw [beq_eq_false_iff_ne];omega
       have bf8232:(((c:Nat):Int)==8232)=false:=by rw [beq_eq_false_iff_ne];omega
       have bf8233:(((c:Nat):Int)==8233)=false:=by rw [beq_eq_false_iff_ne];omega
       clear HE e3 hr0 hr1 hr2 HBN HB hc5 h48 h13 h10
       go_enter Tryz.func176,Tryz.ntmps176
       go_upto_region 22 with (first|(go_at_call 113;refine HD.out.mono ?_;rintro e w1 ⟨rfl,hb1⟩)|(go_at_call 227;refine(HSI.out _).mono ?_;rintro e w2 ⟨⟨x,rfl⟩,hb2⟩))
       by_cases hx0:0≤x
       ·go_wp2_with fail
        go_ret3
        exact⟨⟨_,ret3 (by first|(rw [HN.out];done)|(rw [HN.out];omega)|(rw [HN.out];simp only [up];omega)) (by rw [HN.out];try rfl)⟩,aa0 hb1 hb2⟩
       ·go_wp2_with fail
        go_ret3
        exact⟨⟨_,ret3 (by first|(rw [HN.out];done)|(rw [HN.out];omega)|(rw [HN.out];simp only [up];omega)) (by rw [HN.out];try rfl)⟩,aa0 hb1 hb2⟩
   ·by_cases hhi:c≤57
    ·have HN:=hJ (show E=(false,1) by rw [HE.out,if_pos (by omega)])
     have b1:(((c:Nat):Int)==65533)=false:=by rw [beq_eq_false_iff_ne];omega
     clear HE hr0 hr1 hr2 HBN HB
     go_enter Tryz.func176,Tryz.ntmps176
     go_wp2_with (go_at_call 113;refine HD.out.mono ?_;rintro e w1 ⟨rfl,hb1⟩)
     go_ret3
     exact⟨⟨_,ret3 (by first|(rw [HN.out];done)|(rw [HN.out];omega)|(rw [HN.out];simp only [up];omega)) (by rw [HN.out];try rfl)⟩,hb1⟩
    ·have e3: ¬(49≤(c:Int)∧(c:Int)≤57):=by omega
     have e4: ¬(c:Int)=48:=by omega
     by_cases h120:c=120
     ·subst h120
      have hdg:=fun W z hz=>ay4 s (p+2) 2 W hs (by omega) (by decide) z 2 hz rfl
      have HN:=hJ (show E=up 2 (digN 2 (s.data.toList.drop (p+2))) by rw [HE.out,if_neg e3,if_neg e4,if_pos (show((120:Nat):Int)=120 from rfl)])
      generalize digN 2 (s.data.toList.drop (p+2))=G at*
      have HG:=hJ hdg
      clear hdg HE e3 e4 hr0 hr1 hr2 HBN HB
      go_enter Tryz.func176,Tryz.ntmps176
      go_wp2_with (first|(go_at_call 113;refine HD.out.mono ?_;rintro e w1 ⟨rfl,hb1⟩)|(go_at_call 225;refine(HG.out _ _ (by omega)).mono ?_;rintro e w2 ⟨⟨x,rfl⟩,rfl⟩))
      go_ret3
      exact⟨⟨_,ret3 (by first|(rw [HN.out];done)|(rw [HN.out];omega)|(rw [HN.out];simp only [up];omega)) (by rw [HN.out];try rfl)⟩,hb1⟩
     ·by_cases h117:c=117
      ·subst h117
       have hE:=HE.out
       rw [if_neg e3,if_neg e4,if_neg (show¬((117:Nat):Int)=120 by decide),if_pos (show((117:Nat):Int)=117 from rfl)] at hE
       have HE2:=hJ hE
       clear hE HE e3 e4 hr0 hr1 hr2 HBN HB h120
       by_cases hlt:p+2<s.size
       ·have hpx:=hp1 s (p+2) 123 hlt
        by_cases d1:s[p+2]=123
        ·have HN:=hJ (show E=up 3 (brcN 0 true (s.data.toList.drop (p+3))) by rw [HE2.out,if_pos (by rw [hpx,d1];rfl)])
         have b1:(((s[p+2].toNat:Nat):Int)==123)=true:=aq9 (show s[p+2]=123 from d1)
         have hdg:=fun W z hz=>bd1 s (p+3) W hs (by omega) z hz
         generalize brcN 0 true (s.data.toList.drop (p+3))=G at*
         have HG:=hJ hdg
         clear HE2 hpx d1 hdg
         go_enter Tryz.func176,Tryz.ntmps176
         go_wp2_with (first|(go_at_call 113;refine HD.out.mono ?_;rintro e w1 ⟨rfl,hb1⟩)|(go_at_call 226;refine(HG.out _ _ (by omega)).mono ?_;rintro e w2 ⟨⟨x,rfl⟩,rfl⟩))
         go_ret3
         exact⟨⟨_,ret3 (by first|(rw [HN.out];done)|(rw [HN.out];omega)|(rw [HN.out];simp only [up];omega)) (by rw [HN.out];try rfl)⟩,hb1⟩
        ·have HN:=hJ (show E=up 2 (digN 4 (s.data.toList.drop (p+2))) by rw [HE2.out,if_neg (by rw [hpx];intro h;exact d1 (eq_of_beq h))])
         have b1:(((s[p+2].toNat:Nat):Int)==123)=false:=ap3 (show s[p+2]≠123 from d1)
         have hdg:=fun W z hz=>ay4 s (p+2) 4 W hs (by omega) (by decide) z 4 hz rfl
         generalize digN 4 (s.data.toList.drop (p+2))=G at*
         have HG:=hJ hdg
         clear HE2 hpx d1 hdg
         go_enter Tryz.func176,Tryz.ntmps176
         go_wp2_with (first|(go_at_call 113;refine HD.out.mono ?_;rintro e w1 ⟨rfl,hb1⟩)|(go_at_call 225;refine(HG.out _ _ (by omega)).mono ?_;rintro e w2 ⟨⟨x,rfl⟩,rfl⟩))
         go_ret3
         exact⟨⟨_,ret3 (by first|(rw [HN.out];done)|(rw [HN.out];omega)|(rw [HN.out];simp only [up];omega)) (by rw [HN.out];try rfl)⟩,hb1⟩
       ·have HN:=hJ (show E=up 2 (digN 4 (s.data.toList.drop (p+2))) by rw [HE2.out,if_neg (by rw [bk6 s (p+2) 123 (by omega)];decide)])
        have hdg:=fun W z hz=>ay4 s (p+2) 4 W hs (by omega) (by decide) z 4 hz rfl
        generalize digN 4 (s.data.toList.drop (p+2))=G at*
        have HG:=hJ hdg
        clear HE2 hdg
        go_enter Tryz.func176,Tryz.ntmps176
        go_wp2_with (first|(go_at_call 113;refine HD.out.mono ?_;rintro e w1 ⟨rfl,hb1⟩)|(go_at_call 225;refine(HG.out _ _ (by omega)).mono ?_;rintro e w2 ⟨⟨x,rfl⟩,rfl⟩))
        go_ret3
        exact⟨⟨_,ret3 (by first|(rw [HN.out];done)|(rw [HN.out];omega)|(rw [HN.out];simp only [up];omega)) (by rw [HN.out];try rfl)⟩,hb1⟩
      ·have HN:=hJ (show E=(true,1+n) by rw [HE.out,if_neg e3,if_neg e4,if_neg (by omega),if_neg (by omega),if_neg (fun h=>by have:=h.1;omega)])
       by_cases h8:c=8232
       ·subst h8
        clear HE e3 e4 hr0 hr1 hr2 HBN HB h120 h117
        go_enter Tryz.func176,Tryz.ntmps176
        go_wp2_with (go_at_call 113;refine HD.out.mono ?_;rintro e w1 ⟨rfl,hb1⟩)
        go_ret3
        exact⟨⟨_,ret3 (by first|(rw [HN.out];done)|(rw [HN.out];omega)|(rw [HN.out];simp only [up];omega)) (by rw [HN.out];try rfl)⟩,hb1⟩
       ·by_cases h9:c=8233
        ·subst h9
         clear HE e3 e4 hr0 hr1 hr2 HBN HB h120 h117 h8
         go_enter Tryz.func176,Tryz.ntmps176
         go_wp2_with (go_at_call 113;refine HD.out.mono ?_;rintro e w1 ⟨rfl,hb1⟩)
         go_ret3
         exact⟨⟨_,ret3 (by first|(rw [HN.out];done)|(rw [HN.out];omega)|(rw [HN.out];simp only [up];omega)) (by rw [HN.out];try rfl)⟩,hb1⟩
        ·have HSI:=hJ (fun W=>aJ4 c hr0 hr1 hr2 W)
         by_cases hff:c=65533
         ·subst hff
          have hn1:n≠1:=fun h=>HB.out ⟨rfl,h⟩
          have bn1:(((n:Nat):Int)==1)=false:=by rw [beq_eq_false_iff_ne];omega
          clear HE e3 e4 hr0 hr1 hr2 HBN HB h120 h117 h8 h9 hn1
          go_enter Tryz.func176,Tryz.ntmps176
          go_upto_region 22 with (first|(go_at_call 113;refine HD.out.mono ?_;rintro e w1 ⟨rfl,hb1⟩)|(go_at_call 227;refine(HSI.out _).mono ?_;rintro e w2 ⟨⟨x,rfl⟩,hb2⟩))
          by_cases hx0:0≤x
          ·go_wp2_with fail
           go_ret3
           exact⟨⟨_,ret3 (by first|(rw [HN.out];done)|(rw [HN.out];omega)|(rw [HN.out];simp only [up];omega)) (by rw [HN.out];try rfl)⟩,aa0 hb1 hb2⟩
          ·go_wp2_with fail
           go_ret3
           exact⟨⟨_,ret3 (by first|(rw [HN.out];done)|(rw [HN.out];omega)|(rw [HN.out];simp only [up];omega)) (by rw [HN.out];try rfl)⟩,aa0 hb1 hb2⟩
         ·have bf65533:(((c:Nat):Int)==65533)=false:=by rw [beq_eq_false_iff_ne];omega
          have bf48:(((c:Nat):Int)==48)=false:=by rw [beq_eq_false_iff_ne];omega
          have bf120:(((c:Nat):Int)==120)=false:=by rw [beq_eq_false_iff_ne];omega
          have bf117:(((c:Nat):Int)==117)=false:=by rw [beq_eq_false_iff_ne];omega
          have bf13:(((c:Nat):Int)==13)=false:=by rw [beq_eq_false_iff_ne];omega
          have bf10:(((c:Nat):Int)==10)=false:=by rw [beq_eq_false_iff_ne];omega
          have bf8232:(((c:Nat):Int)==8232)=false:=by rw [beq_eq_false_iff_ne];omega
          have bf8233:(((c:Nat):Int)==8233)=false:=by rw [beq_eq_false_iff_ne];omega
          clear HE e3 e4 hr0 hr1 hr2 HBN HB h120 h117 h8 h9 hff
          go_enter Tryz.func176,Tryz.ntmps176
          go_upto_region 22 with (first|(go_at_call 113;refine HD.out.mono ?_;rintro e w1 ⟨rfl,hb1⟩)|(go_at_call 227;refine(HSI.out _).mono ?_;rintro e w2 ⟨⟨x,rfl⟩,hb2⟩))
          by_cases hx0:0≤x
          ·go_wp2_with fail
           go_ret3
           exact⟨⟨_,ret3 (by first|(rw [HN.out];done)|(rw [HN.out];omega)|(rw [HN.out];simp only [up];omega)) (by rw [HN.out];try rfl)⟩,aa0 hb1 hb2⟩
          ·go_wp2_with fail
           go_ret3
           exact⟨⟨_,ret3 (by first|(rw [HN.out];done)|(rw [HN.out];omega)|(rw [HN.out];simp only [up];omega)) (by rw [HN.out];try rfl)⟩,aa0 hb1 hb2⟩
end
section
open Go.RowKit
def PtAt (w:World) (g:Nat) (a c:Int) (f:Bool) (v:Int):Prop:=w.heap[g]? =some (.cells #[.int .i64 a,.int .i64 c,.bool f,.int .i64 v] 156 (0,0))
theorem PtAt.lt {w:World} {g:Nat} {a c v:Int} {f:Bool} (h:PtAt w g a c f v):g<w.heap.size:=(Array.getElem?_eq_some_iff.1 h).1
theorem PtAt.bel {w w':World} {g:Nat} {a c v:Int} {f:Bool} (h:PtAt w g a c f v) (hb:Below w.heap.size w w'):PtAt w' g a c f v:=(hb.block g h.lt).trans h
theorem PtAt.cell {w:World} {g:Nat} {a c v:Int} {f:Bool} (h:PtAt w g a c f v) (j:Nat):w.cell? ⟨g,j,none⟩=(#[.int .i64 a,.int .i64 c,.bool f,.int .i64 v]:Array Value)[j]? :=by
 unfold PtAt at h
 simp [World.cell?,h]
theorem PtAt.facts {w:World} {g:Nat} {a c v:Int} {f:Bool} (h:PtAt w g a c f v):
  w.cell? ⟨g,0,none⟩=some (.int .i64 a)∧w.cell? ⟨g,1,none⟩=some (.int .i64 c)∧w.cell? ⟨g,2,none⟩=some (.bool f)∧w.cell? ⟨g,3,none⟩=some (.int .i64 v)∧
  w.frozen? ⟨g,0,none⟩=false∧w.frozen? ⟨g,1,none⟩=false∧w.frozen? ⟨g,2,none⟩=false∧w.frozen? ⟨g,3,none⟩=false:=by
 have hf:=fun k=>frozen_of_row w g k #[.int .i64 a,.int .i64 c,.bool f,.int .i64 v] _ h
 exact⟨h.cell 0,h.cell 1,h.cell 2,h.cell 3,hf 0,hf 1,hf 2,hf 3⟩
theorem PtAt.set1 {w:World} {g:Nat} {a c v:Int} {f:Bool} (h:PtAt w g a c f v) (u:Int):PtAt (w.setCell ⟨g,1,none⟩ (.int .i64 u)) g a u f v:=heap_setCell_same w g 1 _ _ (.int .i64 u) h
theorem PtAt.set2 {w:World} {g:Nat} {a c v:Int} {f:Bool} (h:PtAt w g a c f v) (u:Bool):PtAt (w.setCell ⟨g,2,none⟩ (.bool u)) g a c u v:=heap_setCell_same w g 2 _ _ (.bool u) h
theorem PtAt.set3 {w:World} {g:Nat} {a c v:Int} {f:Bool} (h:PtAt w g a c f v) (u:Int):PtAt (w.setCell ⟨g,3,none⟩ (.int .i64 u)) g a c f u:=heap_setCell_same w g 3 _ _ (.int .i64 u) h
structure Pst (w0:World) (v:Value) (n:Nat) (xs:List Value) (w:World):Prop where
 own:w.ownsRow w0.heap.size 156 4 v n xs
 bel:Below w0.heap.size w0 w
theorem aE7 {w w':World} {base size n:Nat} {e:TypeId} {v:Value} {xs:List Value} (h:w.ownsRow base e size v n xs) (hb:Below w.heap.size w w'):w'.ownsRow base e size v n xs:=by
 refine⟨h.1,?_⟩
 rcases h.2 with h2|⟨g,cap,cur,hv,hg,hh,r⟩
 ·exact .inl h2
 ·refine .inr ⟨g,cap,cur,hv,hg,?_,r⟩
  rw [hb.block g (Array.getElem?_eq_some_iff.1 hh).1]
  exact hh
theorem Pst.next {w0 w w':World} {v:Value} {n:Nat} {xs:List Value} (h:Pst w0 v n xs w) (hb:Below w.heap.size w w'):Pst w0 v n xs w':=⟨aE7 h.own hb,h.bel.trans (hb.mono h.bel.size)⟩
theorem ah5 {w:World} {base size n g:Nat} {e:TypeId} {v u:Value} {xs:List Value} (k:Nat) (h:w.ownsRow base e size v n xs) (hg:v.ownBlock≠some g):(w.setCell ⟨g,k,none⟩ u).ownsRow base e size v n xs:=by
 refine⟨h.1,?_⟩
 rcases h.2 with h2|⟨g',cap,cur,hv,hg',hh,r⟩
 ·exact .inl h2
 ·refine .inr ⟨g',cap,cur,hv,hg',?_,r⟩
  rw [Below.heap_setCell _ _ _ _ (show g'≠g by
   rintro rfl
   exact hg (by rw [hv];rfl))]
  exact hh
theorem Pst.setCell {w0 w:World} {v u:Value} {n g:Nat} {xs:List Value} (h:Pst w0 v n xs w) (k:Nat) (hg:w0.heap.size≤g) (hne:v.ownBlock≠some g):Pst w0 v n xs (w.setCell ⟨g,k,none⟩ u):=⟨ah5 k h.own hne,h.bel.setCell (p:=⟨g,k,none⟩) hg u⟩
theorem Pst.own_lt {w0 w:World} {v:Value} {n:Nat} {xs:List Value} (h:Pst w0 v n xs w):v.ownBlock≠some w.heap.size:=by
 rcases h.own.2 with ⟨e,_⟩|⟨g,cap,cur,e,_,hh,_⟩
 ·rw [e];intro hc;cases hc
 ·rw [e]
  intro hc
  have h1:=(Array.getElem?_eq_some_iff.1 hh).1
  have h2:g=w.heap.size:=by injection hc
  omega
theorem Pst.push {w0 w w1:World} {v v':Value} {n:Nat} {xs ys:List Value} {o:Obj} (h:Pst w0 v n xs w) (hg:(w.alloc o).grownBy w1 v.ownBlock) (ho:w1.ownsRow w0.heap.size 156 4 v' (n+1) (xs++ys)):Pst w0 v' (n+1) (xs++ys) w1:=by
 refine⟨ho,?_⟩
 refine(h.bel.alloc h.bel.size o).grown hg ?_ ?_
 ·have:=h.bel.size;rw [World.size_alloc];omega
 ·intro k hk
  rcases h.own.2 with ⟨e,_⟩|⟨g,cap,cur,e,h2,_⟩
  ·rw [e] at hk;cases hk
  ·rw [e] at hk;cases hk;exact h2
def ag8 (a c:Int) (f:Bool) (v:Int):List Value:= [.int .i64 a,.int .i64 c,.bool f,.int .i64 v]
theorem aQ3 (w:World) (a c:Int) (f:Bool) (v:Int): ∀j u,(ag8 a c f v)[j]? =some u→(w.alloc (.cells #[.int .i64 a,.int .i64 c,.bool f,.int .i64 v] 156)).cell? ((⟨w.heap.size,0,none⟩:Addr).add j)=some u:=by
 intro j u h
 have hc:PtAt (w.alloc (.cells #[.int .i64 a,.int .i64 c,.bool f,.int .i64 v] 156)) w.heap.size a c f v:=heap_alloc_new _ _
 have hadd:(⟨w.heap.size,0,none⟩:Addr).add j=⟨w.heap.size,j,none⟩:=by unfold Addr.add;split<;>simp_all
 rw [hadd,hc.cell j]
 simpa [ag8] using h
theorem aQ4 (a c:Int) (f:Bool) (v:Int): ∀u ∈ ag8 a c f v,u.oneCell'=true:=by
 intro u hu
 simp only [ag8,List.mem_cons,List.not_mem_nil,or_false] at hu
 rcases hu with rfl|rfl|rfl|rfl<;>rfl
theorem bA5:(Tryz.prog.info? 156).map (fun i=>(i.zero,i.size,i.bytes))=some (some (.agg #[.int .i64 0,.int .i64 0,.bool false,.int .i64 0]),4,32):=by kernel_rfl
def bL2 (s:ByteArray) (q:UInt8) (w:World) (v a:Value) (wr:World):Prop:=
 ∃(k n:Nat) (xs:List Value),1≤k∧k≤s.size∧n≤k∧a= .int .i64 (k:Nat)∧Pst w v n xs wr∧prt q (s.data.toList.drop 1)=up (k - 1) (prt q (s.data.toList.drop k))
def aY6 (s:ByteArray) (e:Ending):Prop:=
 ∃v:Value,e= .returned (.tuple #[v,.int .i64 (strC s.data.toList).2,.bool (strC s.data.toList).1])
theorem bq1 (s:ByteArray) (h:0<s.size):strC s.data.toList=if s[0]≠39∧s[0]≠34 then (false,0)
  else if (prt s[0] (s.data.toList.drop 1)).1=false then (false,1+(prt s[0] (s.data.toList.drop 1)).2)
  else if 1+(prt s[0] (s.data.toList.drop 1)).2=s.size - 1 then (true,0)
  else (false,min (2+(prt s[0] (s.data.toList.drop 1)).2) s.size):=by
 have hd:=ac5 s 0 h
 rw [List.drop_zero] at hd
 have hl:(s.data.toList.drop 1).length=s.size - 1:=by rw [List.length_drop,ofl]
 rw [hd,strC,hl]
 simp only [List.drop_succ_cons,List.drop_zero,Nat.zero_add] at hd⊢
 rw [show s.size - 1+1=s.size by omega]
theorem PtAt.grown {w w1:World} {g:Nat} {a c v:Int} {f:Bool} {o:Obj} {r:Option Nat} (h:PtAt w g a c f v) (hg:(w.alloc o).grownBy w1 r) (hr:r≠some g):PtAt w1 g a c f v:=by
 have h1:PtAt (w.alloc o) g a c f v:=h.bel (Below.alloc (Below.refl _ w) (Nat.le_refl _) o)
 exact(hg.block g h1.lt (fun e=>hr e.symm)).trans h1
theorem ai4 {s:ByteArray} {v:Value} {a:Int} {f:Bool} {o:Bool × Nat} (h:strC s.data.toList=o) (h1:a=((o.2:Nat):Int)) (h2:f=o.1):aY6 s (.returned (.tuple #[v,.int .i64 a,.bool f])):=by
 unfold aY6
 rw [h,h1,h2]
 exact⟨v,rfl⟩
theorem bo0 (s:ByteArray) (w:World) (hs:s.size≤16777216) (hT:Lib.Utf8Tabs 3 4 w):
  Calls Tryz.prog 114 #[.string s] w fun e w'=>aY6 s e∧Below w.heap.size w w':=by
 by_cases h0:0<s.size
 ·have hem:=ah4 h0
  have hS:=bq1 s h0
  by_cases hq:s[0]=39∨s[0]=34
  ·rw [if_neg (by rintro⟨h1,h2⟩;rcases hq with h|h;exact h1 h;exact h2 h)] at hS
   have HS:=hJ hS
   clear hS
   obtain⟨i0,hi,hz0,hz1,hz2⟩:=info_parts bA5
   have HT:=hJ hT
   have HP0:=hJ (show Pst w (.slice none 0 0) 0 [] w from⟨World.ownsRow_nil _ _ _ _,Below.refl _ _⟩)
   have HQ:=hJ hq
   clear hT hq
   go_enter Tryz.func114,Tryz.ntmps114
   go_wp2_with fail
   go_step3
   go_upto_region 1 with fail
   go_cut [22] from 11 to 21 (fun v wx=>v= .bool false∧w=wx)
   case first=>
    rcases HQ.out with h|h
    ·have b1:(((s[0].toNat:Nat):Int) !=39)=false:=by rw [bne_eq_false_iff_eq,h];rfl
     clear h
     go_wp2_with fail
     go_meet
     exact⟨rfl,rfl⟩
    ·have b1:(((s[0].toNat:Nat):Int) !=39)=true:=by rw [h];rfl
     have b2:(((s[0].toNat:Nat):Int) !=34)=false:=by rw [bne_eq_false_iff_eq,h];rfl
     clear h
     go_wp2_with fail
     go_meet
     exact⟨rfl,rfl⟩
   case rest=>
    obtain⟨rfl,rfl⟩:=hcut
    clear HQ
    go_wp2_with fail
    go_step3
    go_wp2_with fail
    go_loopw [5,6,7,8,9,10,41,48,60] (fun v a _ _ _ _ _ _ _ wr=>bL2 s s[0] w v a wr) (fun _ a _ _ _ _ _ _ _ _=>s.size - (intOf a).toNat)
    case atStart=>exact⟨1,0,[],Nat.le_refl _,h0,Nat.zero_le _,rfl,HP0.out,by rw [Nat.sub_self,aY2]⟩
    case round=>
     clear HP0
     obtain⟨k,n,xs,hk1,hk,hnk,rfl,hpst,heq⟩:=hrel
     by_cases hlt:k<s.size
     ·have hx:=ac5 s k hlt
      have hstep:=by0 s[0] s[k] (s.data.toList.drop (k+1))
      rw [←hx] at hstep
      rw [hstep] at heq
      have hd:=Tryz.utf8_DecodeRuneInString (s.extract k s.size) wr (Utf8Tabs_below HT.out hpst.bel)
      have hn:=av4 s k
      have hpz:=fun h=>aj0 (l:=s.data.toList.drop k) h
      rw [List.length_drop,ofl] at hpz
      have hle:=at5 (s.extract k s.size)
      have hes:=fun W h z hz=>bd7 s k W hs hlt h z hz
      have hel:=aK9 (l:=s.data.toList.drop k) (by rw [hx];simp)
      rw [List.length_drop,ofl] at hel
      generalize nx (s.data.toList.drop k)=q at*
      obtain⟨⟨c,m⟩,hcm⟩: ∃q,Lib.decodeGo (s.extract k s.size)=q:=⟨_,rfl⟩
      rw [hcm] at hd hn hle
      simp only at hd hn hle
      clear hcm hstep hx
      obtain⟨hle1,hle2⟩:=hle
      generalize escS (s.data.toList.drop k)=E at*
      have HEQ:=hJ heq
      have HD:=hJ hd
      have HN:=hJ hn
      have HPZ:=hJ hpz
      have HES:=hJ hes
      have HEL:=hJ hel
      have HP:=hJ hpst
      clear heq hd hn hpz hes hel hpst
      go_upto_region 8 with (go_at_call 113;refine HD.out.mono ?_;rintro e w1 ⟨rfl,hb1⟩)
      have hp1:=HP.out.next hb1
      have hp2:=hp1.next (Below.alloc (Below.refl _ w1) (Nat.le_refl _) (.cells #[.int .i64 k,.int .i64 ((k:Int)+(m:Int)),.bool false,.int .i64 c] 156))
      have hpt:PtAt (w1.alloc (.cells #[.int .i64 k,.int .i64 ((k:Int)+(m:Int)),.bool false,.int .i64 c] 156)) w1.heap.size k ((k:Int)+(m:Int)) false c:=heap_alloc_new _ _
      have hne:=hp1.own_lt
      have hgw:=hp1.bel.size
      generalize w1.alloc (.cells #[.int .i64 k,.int .i64 ((k:Int)+(m:Int)),.bool false,.int .i64 c] 156)=w2 at*
      generalize w1.heap.size=g at*
      clear hp1 hb1 HD HP
      by_cases hq0:s[k]=s[0]
      ·have bq:(((s[k].toNat:Nat):Int)==((s[0].toNat:Nat):Int))=true:=aq9 hq0
       have HV:=hJ (show prt s[0] (s.data.toList.drop 1)=(true,k - 1) by rw [HEQ.out,if_pos hq0];simp [up])
       clear HEQ HN HPZ HES HEL hq0
       have HB:=hJ hp2.bel
       clear hp2 hpt
       by_cases hend:k=s.size - 1
       ·have be:(((k:Nat):Int) !=((s.size:Nat):Int) - 1)=false:=by rw [bne_eq_false_iff_eq];omega
        have HW:=hJ (show strC s.data.toList=(true,0) by rw [HS.out,HV.out,if_neg (by simp),if_pos (by simp only;omega)])
        clear HS HV hend
        go_quiet (fail)
        go_wp2_with fail
        try rw [Exit.noGoto_ret]
        go_ret3
        exact⟨ai4 HW.out rfl rfl,aa3 HB.out _⟩
       ·have be:(((k:Nat):Int) !=((s.size:Nat):Int) - 1)=true:=by rw [bne_iff_ne];omega
        have HW:=hJ (show strC s.data.toList=(false,k+1) by
         rw [HS.out,HV.out,if_neg (by simp),if_neg (by simp only;omega)]
         congr 1
         simp only
         omega)
        clear HS HV hend
        go_quiet (fail)
        go_wp2_with fail
        try rw [Exit.noGoto_ret]
        go_ret3
        exact⟨ai4 HW.out (by simp only;first|omega|(split<;>omega)) rfl,aa3 HB.out _⟩
      ·have bq:(((s[k].toNat:Nat):Int)==((s[0].toNat:Nat):Int))=false:=ap3 hq0
       have HQ2:=hJ (HEQ.out.trans (by rw [if_neg hq0]))
       clear HEQ hq0
       by_cases hbad:c=65533∧m=1
       ·obtain⟨rfl,rfl⟩:=hbad
        have HV:=hJ (show prt s[0] (s.data.toList.drop 1)=(false,k - 1) by
         have hn:=HN.out
         rw [if_pos ⟨rfl,rfl⟩] at hn
         rw [HQ2.out,hn,if_pos (.inl (by decide))];simp [up])
        have HW:=hJ (show strC s.data.toList=(false,k) by
         rw [HS.out,HV.out,if_pos rfl]
         congr 1
         simp only
         omega)
        clear HQ2 HS HV HES HEL
        have HB:=hJ hp2.bel
        clear hp2 hpt
        go_quiet (fail)
        go_wp2_with fail
        try rw [Exit.noGoto_ret]
        go_ret3
        exact⟨ai4 HW.out rfl rfl,aa3 HB.out _⟩
       ·have hn:=HN.out
        rw [if_neg hbad] at hn
        subst hn
        have hbm:c=65533→(((m:Nat):Int)==1)=false:=fun e=>by rw [beq_eq_false_iff_ne];intro h;exact hbad ⟨e,by omega⟩
        obtain⟨m',hm',hm1,hm2,hm3⟩:=HPZ.out (show(0:Int)≤(m:Int) by omega)
        simp only at hm'
        have hmm:m=m':=by omega
        subst hmm
        have hm0:0<m:=by
         rcases Nat.eq_zero_or_pos m with h|h
         ·have:=congrArg List.length (hm3.2 h)
          rw [List.length_drop,ofl] at this
          simp at this
          omega
         ·exact h
        clear HN HPZ hm' hm3
        by_cases h10:c=10
        ·subst h10
         have HV:=hJ (show prt s[0] (s.data.toList.drop 1)=(false,k - 1) by rw [HQ2.out,if_pos (.inr (.inl rfl))];simp [up])
         clear hbm
         have HW:=hJ (show strC s.data.toList=(false,k) by
          rw [HS.out,HV.out,if_pos rfl]
          congr 1
          simp only
          omega)
         clear HQ2 HS HV HES HEL
         have HB:=hJ hp2.bel
         clear hp2 hpt
         go_quiet (fail)
         go_wp2_with fail
         try rw [Exit.noGoto_ret]
         go_ret3
         exact⟨ai4 HW.out rfl rfl,aa3 HB.out _⟩
        ·by_cases h13:c=13
         ·subst h13
          have HV:=hJ (show prt s[0] (s.data.toList.drop 1)=(false,k - 1) by rw [HQ2.out,if_pos (.inr (.inr rfl))];simp [up])
          clear hbm h10
          have HW:=hJ (show strC s.data.toList=(false,k) by
           rw [HS.out,HV.out,if_pos rfl]
           congr 1
           simp only
           omega)
          clear HQ2 HS HV HES HEL
          have HB:=hJ hp2.bel
          clear hp2 hpt
          go_quiet (fail)
          go_wp2_with fail
          try rw [Exit.noGoto_ret]
          go_ret3
          exact⟨ai4 HW.out rfl rfl,aa3 HB.out _⟩
         ·have HQ3:=hJ (HQ2.out.trans (by rw [if_neg (by rintro(h|h|h);simp only at h;omega;simp only at h;omega;simp only at h;omega)]))
          clear HQ2
          by_cases h92:c=92
          ·subst h92
           clear hbm h10 h13 hbad
           cases hE1:E.1 with
           |false=>
            have HV:=hJ (show prt s[0] (s.data.toList.drop 1)=(false,k - 1+E.2) by rw [HQ3.out,if_pos (show((((92:Nat):Int),((m:Nat):Int)):Int × Int).1=92 from rfl),if_neg (by rw [hE1];decide)];simp [up,hE1])
            have HW:=hJ (show strC s.data.toList=(false,k+E.2) by
             rw [HS.out,HV.out,if_pos rfl]
             congr 1
             simp only
             omega)
            clear HQ3 HS HV
            have HP:=hJ hp2
            clear hp2
            obtain⟨d0,d1,d2,d3,g0,g1,g2,g3⟩:=PtAt.facts hpt
            go_quiet (fail)
            go_upto_region 15 with fail
            clear d0 d1 d2 d3 g0 g1 g2 g3
            generalize hwd:w2.drewN _=w3 at*
            have hbd:Below w2.heap.size w2 w3:=by rw [←hwd];exact aa3 (Below.refl _ _) _
            clear hwd
            have hpt3:=hpt.bel hbd
            replace HP:=hJ (HP.out.next hbd)
            clear hbd hpt
            obtain⟨d0,d1,d2,d3,g0,g1,g2,g3⟩:=PtAt.facts hpt3
            go_upto_region 16 with fail
            have hpt4:=hpt3.set2 true
            have hp4:=HP.out.setCell (u:= .bool true) 2 hgw hne
            clear d0 d1 d2 d3 g0 g1 g2 g3 HP
            clear hpt3
            generalize World.setCell _ _ _=w4 at*
            have HP:=hJ hp4
            have HPT:=hJ hpt4
            clear hp4 hpt4
            go_upto_region 17 with (go_at_call 176;refine(HES.out _ (Utf8Tabs_below HT.out HP.out.bel) _ rfl).mono ?_;rintro e w5 ⟨⟨x,rfl⟩,hb5⟩;replace HP:=hJ (HP.out.next hb5);have hpt5:=HPT.out.bel hb5;clear hb5;obtain⟨d0,d1,d2,d3,g0,g1,g2,g3⟩:=PtAt.facts hpt5)
            have hpt6:=(hpt5.set3 x).set1 ((k:Int)+((E.2:Nat):Int))
            have hp6:=(HP.out.setCell (u:= .int .i64 x) 3 hgw hne).setCell (u:= .int .i64 ((k:Int)+((E.2:Nat):Int))) 1 hgw hne
            clear d0 d1 d2 d3 g0 g1 g2 g3 HP hpt5
            generalize World.setCell (World.setCell _ _ _) _ _=w6 at*
            have HP:=hJ hp6
            clear hp6
            obtain⟨d0,d1,d2,d3,g0,g1,g2,g3⟩:=PtAt.facts hpt6
            go_upto_region 18 with fail
            go_quiet (fail)
            go_wp2_with fail
            try rw [Exit.noGoto_ret]
            go_ret3
            exact⟨ai4 HW.out (by simp only;omega) rfl,aa3 HP.out.bel _⟩
           |true=>
            have HV:=hJ (show prt s[0] (s.data.toList.drop 1)=up (k+E.2 - 1) (prt s[0] (s.data.toList.drop (k+E.2))) by
             rw [HQ3.out,if_pos (show((((92:Nat):Int),((m:Nat):Int)):Int × Int).1=92 from rfl),if_pos hE1,bz0,List.drop_drop,show k - 1+E.2=k+E.2 - 1 by omega])
            obtain⟨hel1,hel2⟩:=HEL.out
            generalize hE2:E.2=t at*
            clear HQ3 HS hE2
            have HP:=hJ hp2
            clear hp2
            obtain⟨d0,d1,d2,d3,g0,g1,g2,g3⟩:=PtAt.facts hpt
            go_quiet (fail)
            go_upto_region 15 with fail
            clear d0 d1 d2 d3 g0 g1 g2 g3
            generalize hwd:w2.drewN _=w3 at*
            have hbd:Below w2.heap.size w2 w3:=by rw [←hwd];exact aa3 (Below.refl _ _) _
            clear hwd
            have hpt3:=hpt.bel hbd
            replace HP:=hJ (HP.out.next hbd)
            clear hbd hpt
            obtain⟨d0,d1,d2,d3,g0,g1,g2,g3⟩:=PtAt.facts hpt3
            go_upto_region 16 with fail
            have hpt4:=hpt3.set2 true
            have hp4:=HP.out.setCell (u:= .bool true) 2 hgw hne
            clear d0 d1 d2 d3 g0 g1 g2 g3 HP
            clear hpt3
            generalize World.setCell _ _ _=w4 at*
            have HP:=hJ hp4
            have HPT:=hJ hpt4
            clear hp4 hpt4
            go_upto_region 17 with (go_at_call 176;refine(HES.out _ (Utf8Tabs_below HT.out HP.out.bel) _ rfl).mono ?_;rintro e w5 ⟨⟨x,rfl⟩,hb5⟩;replace HP:=hJ (HP.out.next hb5);have hpt5:=HPT.out.bel hb5;clear hb5;obtain⟨d0,d1,d2,d3,g0,g1,g2,g3⟩:=PtAt.facts hpt5)
            have hpt6:=(hpt5.set3 x).set1 ((k:Int)+((t:Nat):Int))
            have hp6:=(HP.out.setCell (u:= .int .i64 x) 3 hgw hne).setCell (u:= .int .i64 ((k:Int)+((t:Nat):Int))) 1 hgw hne
            clear d0 d1 d2 d3 g0 g1 g2 g3 HP hpt5
            generalize World.setCell (World.setCell _ _ _) _ _=w6 at*
            have HP:=hJ hp6
            clear hp6
            obtain⟨d0,d1,d2,d3,g0,g1,g2,g3⟩:=PtAt.facts hpt6
            go_upto_region 19 with fail
            have hown:=HP.out.own
            have hsz:=HP.out.bel.size
            have hone:=aQ4 k ((k:Int)+((t:Nat):Int)) true x
            go_wp2_with (at_builtin;refine wpList_append_own_at _ rfl _ _ 152 rfl w.heap.size 156 i0 (.agg #[.int .i64 0,.int .i64 0,.bool false,.int .i64 0]) 4 32 (by kernel_rfl) hi hz0 hz1 hz2 rfl (by decide) _ _ _ rfl (hown.alloc _) ⟨w6.heap.size,0,none⟩ 1 1 (ag8 k ((k:Int)+((t:Nat):Int)) true x) rfl rfl (aQ3 _ _ _ _ _) hone (by unfold maxLen;omega) (by omega) (by rw [World.size_alloc];omega) ?_)
            intro v' w7 hown' hgrow _ _
            have hpush:=Pst.push HP.out hgrow hown'
            have hpt7:=hpt6.grown hgrow hne
            clear d0 d1 d2 d3 g0 g1 g2 g3
            clear hown' hgrow hown hpt6
            obtain⟨d0,d1,d2,d3,g0,g1,g2,g3⟩:=PtAt.facts hpt7
            go_wp2_with fail
            go_roundw
            case rel=>exact⟨k+t,n+1,_,by omega,by omega,by omega,by go_num,hpush,HV.out⟩
            case measure=>simp [intOf];omega
          ·have HV:=hJ (show prt s[0] (s.data.toList.drop 1)=up (k+m - 1) (prt s[0] (s.data.toList.drop (k+m))) by
            rw [HQ3.out,if_neg (by simp only;omega),bz0,List.drop_drop,Int.toNat_natCast,show k - 1+m=k+m - 1 by omega])
           have b10:(((c:Nat):Int)==10)=false:=by rw [beq_eq_false_iff_ne];omega
           have b13:(((c:Nat):Int)==13)=false:=by rw [beq_eq_false_iff_ne];omega
           have b92:(((c:Nat):Int)==92)=false:=by rw [beq_eq_false_iff_ne];omega
           clear HQ3 HS HES HEL h10 h13 h92
           have HP:=hJ hp2
           clear hp2
           obtain⟨d0,d1,d2,d3,g0,g1,g2,g3⟩:=PtAt.facts hpt
           by_cases hff:c=65533
           ·have bm:=hbm hff
            subst hff
            clear hbm hbad
            go_quiet (fail)
            go_upto_region 19 with fail
            clear d0 d1 d2 d3 g0 g1 g2 g3
            generalize hwd:w2.drewN _=w3 at*
            have hbd:Below w2.heap.size w2 w3:=by rw [←hwd];exact aa3 (Below.refl _ _) _
            clear hwd
            have hpt6:=hpt.bel hbd
            replace HP:=hJ (HP.out.next hbd)
            clear hbd hpt
            obtain⟨d0,d1,d2,d3,g0,g1,g2,g3⟩:=PtAt.facts hpt6
            have hown:=HP.out.own
            have hsz:=HP.out.bel.size
            have hone:=aQ4 k ((k:Int)+(m:Int)) false 65533
            go_wp2_with (at_builtin;refine wpList_append_own_at _ rfl _ _ 152 rfl w.heap.size 156 i0 (.agg #[.int .i64 0,.int .i64 0,.bool false,.int .i64 0]) 4 32 (by kernel_rfl) hi hz0 hz1 hz2 rfl (by decide) _ _ _ rfl (hown.alloc _) ⟨w3.heap.size,0,none⟩ 1 1 (ag8 k ((k:Int)+(m:Int)) false 65533) rfl rfl (aQ3 _ _ _ _ _) hone (by unfold maxLen;omega) (by omega) (by rw [World.size_alloc];omega) ?_)
            intro v' w7 hown' hgrow _ _
            have hpush:=Pst.push HP.out hgrow hown'
            have hpt7:=hpt6.grown hgrow hne
            clear d0 d1 d2 d3 g0 g1 g2 g3
            clear hown' hgrow hown hpt6
            obtain⟨d0,d1,d2,d3,g0,g1,g2,g3⟩:=PtAt.facts hpt7
            go_wp2_with fail
            go_roundw
            case rel=>exact⟨k+m,n+1,_,by omega,by omega,by omega,by go_num,hpush,HV.out⟩
            case measure=>simp [intOf];omega
           ·have bm:(((c:Nat):Int)==65533)=false:=by rw [beq_eq_false_iff_ne];omega
            clear hbm hbad hff
            go_quiet (fail)
            go_upto_region 19 with fail
            clear d0 d1 d2 d3 g0 g1 g2 g3
            generalize hwd:w2.drewN _=w3 at*
            have hbd:Below w2.heap.size w2 w3:=by rw [←hwd];exact aa3 (Below.refl _ _) _
            clear hwd
            have hpt6:=hpt.bel hbd
            replace HP:=hJ (HP.out.next hbd)
            clear hbd hpt
            obtain⟨d0,d1,d2,d3,g0,g1,g2,g3⟩:=PtAt.facts hpt6
            have hown:=HP.out.own
            have hsz:=HP.out.bel.size
            have hone:=aQ4 k ((k:Int)+(m:Int)) false (c:Int)
            go_wp2_with (at_builtin;refine wpList_append_own_at _ rfl _ _ 152 rfl w.heap.size 156 i0 (.agg #[.int .i64 0,.int .i64 0,.bool false,.int .i64 0]) 4 32 (by kernel_rfl) hi hz0 hz1 hz2 rfl (by decide) _ _ _ rfl (hown.alloc _) ⟨w3.heap.size,0,none⟩ 1 1 (ag8 k ((k:Int)+(m:Int)) false (c:Int)) rfl rfl (aQ3 _ _ _ _ _) hone (by unfold maxLen;omega) (by omega) (by rw [World.size_alloc];omega) ?_)
            intro v' w7 hown' hgrow _ _
            have hpush:=Pst.push HP.out hgrow hown'
            have hpt7:=hpt6.grown hgrow hne
            clear d0 d1 d2 d3 g0 g1 g2 g3
            clear hown' hgrow hown hpt6
            obtain⟨d0,d1,d2,d3,g0,g1,g2,g3⟩:=PtAt.facts hpt7
            go_wp2_with fail
            go_roundw
            case rel=>exact⟨k+m,n+1,_,by omega,by omega,by omega,by go_num,hpush,HV.out⟩
            case measure=>simp [intOf];omega
     ·obtain rfl:k=s.size:=by omega
      have HW:=hJ (show strC s.data.toList=(false,s.size) by
       rw [HS.out,heq,av5,bF4,if_neg (by simp [up]),if_neg (by simp only [up];omega)]
       congr 1
       simp only [up]
       omega)
      have be:(((s.size:Nat):Int) !=((s.size:Nat):Int) - 1)=true:=by rw [bne_iff_ne];omega
      have HB:=hJ hpst.bel
      clear HS heq hpst
      go_wp2_with fail
      try rw [Exit.noGoto_ret]
      go_ret3
      exact⟨ai4 HW.out (by simp only;first|omega|(split<;>omega)) rfl,HB.out⟩
  ·rw [if_pos ⟨fun h=>hq (.inl h),fun h=>hq (.inr h)⟩] at hS
   have b1:(((s[0].toNat:Nat):Int) !=39)=true:=by rw [bne_iff_ne];exact fun e=>hq (.inl (UInt8.toNat.inj (by rw [show s[0].toNat=39 by omega];rfl)))
   have b2:(((s[0].toNat:Nat):Int) !=34)=true:=by rw [bne_iff_ne];exact fun e=>hq (.inr (UInt8.toNat.inj (by rw [show s[0].toNat=34 by omega];rfl)))
   have HS:=hJ hS
   clear hS hq
   go_enter Tryz.func114,Tryz.ntmps114
   go_wp2_with fail
   go_step3
   go_wp2_with fail
   try rw [Exit.noGoto_ret]
   go_ret3
   exact⟨ai4 HS.out rfl rfl,Below.refl _ _⟩
 ·have hem:=ag0 (show s.size=0 by omega)
  have hS:strC s.data.toList=(false,0):=by
   rw [List.length_eq_zero_iff.1 (show s.data.toList.length=0 by rw [ofl];omega)]
   rfl
  have HS:=hJ hS
  clear hS
  go_enter Tryz.func114,Tryz.ntmps114
  go_wp2_with fail
  go_step3
  go_wp2_with fail
  try rw [Exit.noGoto_ret]
  go_ret3
  exact⟨ai4 HS.out rfl rfl,Below.refl _ _⟩
theorem bh0 (s:ByteArray) (w:World) (hs:s.size≤16777216) (hT:Lib.Utf8Tabs 3 4 w):
  Calls Tryz.prog 169 #[.string s] w fun e w'=>e= .returned (.tuple #[.int .i64 (if (strC s.data.toList).1=true then 0 else ((strC s.data.toList).2:Int)),.int .i64 (if (strC s.data.toList).1=true then 0 else 300)])∧Below w.heap.size w w':=by
 have hp:=bo0 s w hs hT
 unfold aY6 at hp
 generalize strC s.data.toList=o at*
 obtain⟨f,a⟩:=o
 simp only at hp⊢
 have HP:=hJ hp
 clear hp hT
 cases f with
 |true=>
  go_enter Tryz.func169,Tryz.ntmps169
  go_wp2_with (go_at_call 114;refine HP.out.mono ?_;rintro e w1 ⟨⟨v,rfl⟩,hb1⟩)
  go_ret2
  exact⟨rfl,hb1⟩
 |false=>
  go_enter Tryz.func169,Tryz.ntmps169
  go_wp2_with (go_at_call 114;refine HP.out.mono ?_;rintro e w1 ⟨⟨v,rfl⟩,hb1⟩)
  go_ret2
  exact⟨rfl,hb1⟩
end
section
open Go.RowKit
inductive TkO where
 |fine (kind:Int) (n:Nat)
 |bad (off:Nat) (code:Int)
def aft (l:List UInt8) (kind:Int) (n:Nat):TkO:=if (nx (l.drop n)).2<0 then .bad n 502 else .fine kind n
def tpTk (kh kt:Int):TpO→TkO
 | .fine n h=> .fine (if h=true then kh else kt) (1+n)
 | .bad off code=> .bad (if code=502 then 1+off else 0) code
def rgTk (l:List UInt8):TpO→TkO
 | .fine n _=>aft l 6 (1+n)
 | .bad off code=> .bad (if code=502 then 1+off else 0) code
def txtL:List UInt8→Nat
 | []=>0
 |q::l=>if sc q l<l.length∧(l.drop (sc q l)).head? =some q then 2+sc q l else min (1+sc q l) (l.length+1)
def txt (l:List UInt8):TkO:=
 if (strC (l.take (txtL l))).1=true then .fine 4 (txtL l)
 else if (strC (l.take (txtL l))).2<txtL l∧(nx (l.drop (strC (l.take (txtL l))).2)).2<0 then .bad (strC (l.take (txtL l))).2 502
 else .bad (strC (l.take (txtL l))).2 504
def aj1:List (List UInt8):= [[62,62,62,61],[46,46,46],[61,61,61],[33,61,61],[42,42,61],[60,60,61],[62,62,61],[62,62,62],[38,38,61],[124,124,61],[63,63,61],[60,61],[62,61],[61,61],[33,61],[42,42],[43,43],[45,45],[60,60],[62,62],[38,38],[124,124],[63,63],[63,46],[43,61],[45,61],[42,61],[37,61],[38,61],[124,61],[94,61],[61,62],[123],[125],[40],[41],[91],[93],[46],[59],[44],[60],[62],[43],[45],[42],[37],[38],[124],[94],[33],[126],[63],[58],[61]]
def aF0 (l w:List UInt8):Bool:=Lib.hasPrefix l w && !(w== [63,46] && ak5 (l.drop 2))
def pct (goal:Int) (l:List UInt8):Nat:=
 if goal=1∧Lib.hasPrefix l [47,61]=true then 2
 else if goal=1∧Lib.hasPrefix l [47]=true then 1
 else match aj1.find? (aF0 l) with
  |some w=>w.length
  |none=>0
def odd (l:List UInt8):TkO:= .bad 0 (if Lib.hasPrefix l [92]=true then 508 else 502)
def priv (l:List UInt8):TkO:=
 if (nx (l.drop 1)).2<0 then .bad 1 502
 else if al5 false (l.drop 1)=0 then .bad 0 509
 else aft l 2 (1+al5 false (l.drop 1))
def numT (l:List UInt8):TkO:=if numL l=0 then .bad 0 503 else aft l 3 (numL l)
def aA2 (goal:Int) (l:List UInt8):TkO:=
 if l= [] then .fine 0 0
 else if Lib.hasPrefix l [96]=true then tpTk 8 7 (tpl (l.drop 1))
 else if Lib.hasPrefix l [35]=true then priv l
 else if ak5 l=true∨(Lib.hasPrefix l [46]=true∧ak5 (l.drop 1)=true) then numT l
 else if Lib.hasPrefix l [39]=true∨Lib.hasPrefix l [34]=true then txt l
 else if goal=2∧Lib.hasPrefix l [47]=true then rgTk l (rgx true false (l.drop 1))
 else if al5 false l≠0 then aft l 1 (al5 false l)
 else if pct goal l≠0 then .fine 5 (pct goal l)
 else odd l
def attF (q:UInt8):Nat→List UInt8→TpO
 |0,_=> .bad 0 0
 |f+1,l=>
  if Lib.hasPrefix l [q]=true then .fine 1 false
  else if (nx l).2=0 then .bad 0 504
  else if (nx l).2<0 then .bad 0 502
  else (attF q f (l.drop (nx l).2.toNat)).shift (nx l).2.toNat
def att (q:UInt8) (l:List UInt8):TpO:=attF q (l.length+1) l
def tagP (c:UInt8):Bool:=c==60||c==62||c==47||c==123||c==61||c==46||c==58
def tagT:List UInt8→TkO
 | []=> .fine 0 0
 |c::l=>if c=39∨c=34 then (match att c l with
   | .fine n _=> .fine 12 (1+n)
   | .bad off code=> .bad (if code=502 then 1+off else 0) code)
  else if tagP c=true then .fine 5 1
  else if al5 true (c::l)≠0 then aft (c::l) 1 (al5 true (c::l))
  else odd (c::l)
def chC (c:UInt8):Bool:=c==123||c==125||c==60||c==62
def chF:Nat→List UInt8→Bool × Nat
 |0,_=>(true,0)
 |_+1,[]=>(true,0)
 |f+1,c::l=>
  if chC c=true then (true,0)
  else if (nx (c::l)).2<0 then (false,0)
  else up (nx (c::l)).2.toNat (chF f ((c::l).drop (nx (c::l)).2.toNat))
def ch (l:List UInt8):Bool × Nat:=chF l.length l
def bH6 (l:List UInt8):TkO:=
 if (ch l).1=false then .bad (ch l).2 502
 else if 0<(ch l).2 then .fine 11 (ch l).2
 else if l= [] then .fine 0 0
 else if Lib.hasPrefix l [123]=true∨Lib.hasPrefix l [60]=true then .fine 5 1
 else odd l
def bM3 (l:List UInt8):TkO:=tpTk 10 9 (tpl (l.drop 1))
def tokT (goal:Int) (l:List UInt8):TkO:=
 if goal=3 then bM3 l else if goal=4 then bH6 l else if goal=5 then tagT l else aA2 goal l
inductive NxO where
 |fine (kind:Int) (from' n:Nat) (line:Bool) (cs:List Cm)
 |bad (place:Int) (code:Int)
def nxt (s:ByteArray) (p:Nat) (goal:Int):NxO:=
 if goal<1∨5<goal∨(goal=3∧¬Lib.hasPrefix (s.data.toList.drop p) [125]=true) then .bad 0 501
 else match (if goal=3∨goal=4 then BtO.fine p false [] else btw s p false) with
  | .bad place code=> .bad place code
  | .fine q line cs=>match tokT goal (s.data.toList.drop q) with
   | .fine kind n=> .fine kind q n line cs
   | .bad off code=> .bad ((q+off:Nat):Int) code
end
section
open Go.RowKit
structure Tk where
 kind:Int
 text:ByteArray
 from':Int
 till:Int
 line:Bool
def Tk.cells (x:Tk):Array Value:= #[.int .i64 x.kind,.string x.text,.int .i64 x.from',.int .i64 x.till,.bool x.line]
def Tk.val (x:Tk):Value:= .agg x.cells
def Tk.zero:Tk:=⟨0,⟨#[]⟩,0,0,false⟩
end
end Go.Proofs.YtnobjeelihkjmaaGreatDoor
