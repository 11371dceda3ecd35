/- Steps (Asm). Conditions: as stated. -/
import Derived.Test.YtnobjeelihkjmaaGreatDoorZk05
import Derived.StillTailTactics
set_option maxHeartbeats 4000000
set_option maxRecDepth 20000
namespace Go.Proofs.YtnobjeelihkjmaaGreatDoor
section
open Go.RowKit
structure NSt2 (w0:World) (p q L B:Nat) (a:Nd) (b:Option Addr) (cap:Nat) (c:Nd) (d:Option Addr) (cap2:Nat) (wr:World):Prop where
 box:ab0 wr p a.kind a.text b a.kids.length cap a.from' a.till
 box2:ab0 wr q c.kind c.text d c.kids.length cap2 c.from' c.till
 row:RowP wr L B a.kids b 0
 row2:RowP wr L B c.kids d 0
 bel:Below w0.heap.size w0 wr
 hB:B≤w0.heap.size
theorem NSt2.bel' {w0 wr w':World} {p q L B:Nat} {a:Nd} {b:Option Addr} {cap:Nat} {c:Nd} {d:Option Addr} {cap2:Nat} (h:NSt2 w0 p q L B a b cap c d cap2 wr) (hb:Below wr.heap.size wr w'):NSt2 w0 p q L B a b cap c d cap2 w':=
 ⟨h.box.bel hb h.box.lt,h.box2.bel hb h.box2.lt,ad5 h.row (hb.mono (Nat.le_trans h.hB h.bel.size)),ad5 h.row2 (hb.mono (Nat.le_trans h.hB h.bel.size)),aa0 h.bel hb,h.hB⟩
theorem NSt2.new {w:World} {L B:Nat} {a:Nd} {b:Option Addr} {cap:Nat} {c:Nd} {d:Option Addr} {cap2:Nat} (hr:RowP w L B a.kids b 0) (hr2:RowP w L B c.kids d 0) (hB:B≤w.heap.size):
  NSt2 w w.heap.size (w.heap.size+1) L B a b cap c d cap2 ((w.alloc (.cells #[.int .i64 a.kind,.string a.text,.slice b a.kids.length cap,.int .i64 a.from',.int .i64 a.till] 27)).alloc (.cells #[.int .i64 c.kind,.string c.text,.slice d c.kids.length cap2,.int .i64 c.from',.int .i64 c.till] 27)):=by
 have h1:=Below.alloc (Below.refl _ w) (Nat.le_refl _) (.cells #[.int .i64 a.kind,.string a.text,.slice b a.kids.length cap,.int .i64 a.from',.int .i64 a.till] 27)
 have h2:=ai0 h1 (.cells #[.int .i64 c.kind,.string c.text,.slice d c.kids.length cap2,.int .i64 c.from',.int .i64 c.till] 27)
 have b2:=heap_alloc_new (w.alloc (.cells #[.int .i64 a.kind,.string a.text,.slice b a.kids.length cap,.int .i64 a.from',.int .i64 a.till] 27)) (.cells #[.int .i64 c.kind,.string c.text,.slice d c.kids.length cap2,.int .i64 c.from',.int .i64 c.till] 27)
 rw [World.size_alloc] at b2
 refine⟨?_,b2,ad5 hr (h2.mono hB),ad5 hr2 (h2.mono hB),h2,hB⟩
 exact(Below.heap_alloc _ _ _ (by rw [World.size_alloc];omega)).trans (heap_alloc_new _ _)
theorem bG5 {a b:ByteArray} (h:a≠b):(a.toList==b.toList)=false:=by
 rw [beq_eq_false_iff_ne]
 intro e
 rw [Lib.toList_data,Lib.toList_data] at e
 exact h (aM5 e)
theorem aF6 {a b:Nd} (h: ¬(a.kind=b.kind∧a.text=b.text∧a.kids.length=b.kids.length)):al9 a b=false:=by
 rw [Bool.eq_false_iff]
 intro e
 obtain⟨h1,h2,h3,_⟩:=(az1 a b).1 e
 exact h ⟨h1,h2,h3⟩
theorem bg8 {a b:Nd} (j:Nat) (h1:j<a.kids.length) (h2:j<b.kids.length) (h:al9 a.kids[j] b.kids[j]=false):al9 a b=false:=by
 rw [Bool.eq_false_iff]
 intro e
 obtain⟨_,_,_,h4⟩:=(az1 a b).1 e
 rw [h4 j h1 h2] at h
 cases h
theorem by5 (a:Nd): ∀(c:Nd) (v u:Value) (w:World) (L B:Nat),NdV w L B a v→NdV w L B c u→B≤w.heap.size→aa4 a≤4194304→
  Calls Tryz.prog 8 #[v,u] w fun e w'=>e= .returned (.bool (al9 a c))∧Below w.heap.size w w':=by
 induction a using Nd.ind with
 |h a ih=>
  intro c v u w L B hv hu hB hsz
  obtain⟨b,cap,rfl,hcap,hrow⟩:=hv
  obtain⟨d,cap2,rfl,hcap2,hrow2⟩:=hu
  unfold aa7
  have hkc:=aw0 a
  have HIH:=hJ (fun(W:World) (j:Nat) (hj:j<a.kids.length) (y:Nd) (v u:Value) (hu:NdV W L B a.kids[j] v) (hy:NdV W L B y u) (hW:B≤W.heap.size)=>ih _ (List.getElem_mem hj) y v u W L B hu hy hW (by have:=kid_size hj;omega))
  have HST:=hJ (NSt2.new (cap:=cap) (cap2:=cap2) hrow hrow2 hB)
  clear hrow hrow2 ih
  by_cases hk:a.kind=c.kind
  ·by_cases ht:a.text=c.text
   ·by_cases hn:a.kids.length=c.kids.length
    ·have e1:(a.kind !=c.kind)=false:=by rw [bne_eq_false_iff_eq];exact hk
     have e2:(a.text.toList==c.text.toList)=true:=by rw [ht];exact beq_self_eq_true _
     have e3:(((a.kids.length:Nat):Int) !=((c.kids.length:Nat):Int))=false:=by rw [bne_eq_false_iff_eq];omega
     have HE:=hJ (⟨hk,ht,hn⟩:a.kind=c.kind∧a.text=c.text∧a.kids.length=c.kids.length)
     have hn1:a.kids.length≤c.kids.length:=by omega
     have hn2:c.kids.length≤a.kids.length:=by omega
     clear hk ht hn
     go_enter Tryz.func8,Tryz.ntmps8
     go_upto_region 1 with fail
     generalize World.alloc (World.alloc w _) _=w1 at*
     generalize hp:w.heap.size=p at HST
     generalize hq:p+1=q at HST
     have HP:=hJ hp
     have HQ:=hJ hq
     clear hp hq
     obtain⟨d0,d1,d2,d3,d4,g0,g1,g2,g3,g4⟩:=ab0.facts HST.out.box
     obtain⟨x0,x1,x2,x3,x4,y0,y1,y2,y3,y4⟩:=ab0.facts HST.out.box2
     go_wp2_with fail
     clear d0 d1 d2 d3 d4 g0 g1 g2 g3 g4 x0 x1 x2 x3 x4 y0 y1 y2 y3 y4
     have HOLD:=hJ (show∀j,(hj:j<a.kids.length)→(hj2:j<c.kids.length)→j<0→al9 a.kids[j] c.kids[j]=true from fun _ _ _ h=>absurd h (Nat.not_lt_zero _))
     go_loopw [30] (fun i wr=> ∃k:Nat,k≤a.kids.length∧i= .int .i64 k∧NSt2 w p q L B a b cap c d cap2 wr∧Hid (∀j,(hj:j<a.kids.length)→(hj2:j<c.kids.length)→j<k→al9 a.kids[j] c.kids[j]=true)) (fun i _=>a.kids.length - (intOf i).toNat)
     case atStart=>exact⟨0,Nat.zero_le _,rfl,HST.out,HOLD⟩
     case round=>
      clear HST HOLD
      obtain⟨k,hkl,rfl,hst,hold⟩:=hrel
      have HST:=hJ hst
      obtain⟨d0,d1,d2,d3,d4,g0,g1,g2,g3,g4⟩:=ab0.facts hst.box
      obtain⟨x0,x1,x2,x3,x4,y0,y1,y2,y3,y4⟩:=ab0.facts hst.box2
      by_cases hlt:k<a.kids.length
      ·have hlt2:k<c.kids.length:=by omega
       obtain⟨g,off,b',cap',rfl,hgB,c0,c1,c2,c3,c4,hkv⟩:=aH5 hst.row k hlt
       obtain⟨g',off',d',cap2',rfl,hgB',z0,z1,z2,z3,z4,hkv2⟩:=aH5 hst.row2 k hlt2
       have hcall:=HIH.out wr.drew k hlt _ _ _ (aC1 hkv (Below.drew (Below.refl _ _))) (aC1 hkv2 (Below.drew (Below.refl _ _))) (Nat.le_trans hst.hB hst.bel.size)
       generalize hkid:a.kids[k]=x at*
       generalize hkid2:c.kids[k]=y at*
       have HX:=hJ hkid
       have HY:=hJ hkid2
       have hdr:Below wr.heap.size wr wr.drew:=Below.drew (Below.refl _ _)
       clear hst hkid hkid2 hkv hkv2
       cases hsx:al9 x y with
       |true=>
        rw [hsx] at hcall
        have HCALL:=hJ hcall
        have HSX:=hJ hsx
        clear hcall hsx
        go_upto_region 6 with fail
        go_still_tail 10,(by kernel_rfl)
        change wpList _ _ _ _ _ wr.drew
        go_wp2_with (go_at_call 8;refine HCALL.out.mono ?_;rintro e w2 ⟨rfl,hb2⟩)
        go_roundw
        case rel=>exact⟨k+1,hlt,by go_num,HST.out.bel' (hdr.trans hb2),hJ (fun j hj hj2 hjk=>by
         rcases Nat.lt_succ_iff_lt_or_eq.1 hjk with h|rfl
         ·exact hold.out j hj hj2 h
         ·rw [HX.out,HY.out];exact HSX.out)⟩
        case measure=>simp [intOf];omega
       |false=>
        rw [hsx] at hcall
        have HCALL:=hJ hcall
        have HSX:=hJ hsx
        clear hcall hsx
        go_upto_region 6 with fail
        go_still_tail 10,(by kernel_rfl)
        change wpList _ _ _ _ _ wr.drew
        go_wp2_with (go_at_call 8;refine HCALL.out.mono ?_;rintro e w2 ⟨rfl,hb2⟩)
        go_ret
        exact⟨by rw [bg8 k hlt hlt2 (by rw [HX.out,HY.out];exact HSX.out)];rfl,(HST.out.bel' (hdr.trans hb2)).bel⟩
      ·obtain rfl:k=a.kids.length:=by omega
       go_wp2_with fail
       go_ret
       exact⟨by rw [(az1 a c).2 ⟨HE.out.1,HE.out.2.1,HE.out.2.2,fun j h h2=>hold.out j h h2 h⟩];rfl,HST.out.bel⟩
    ·have e1:(a.kind !=c.kind)=false:=by rw [bne_eq_false_iff_eq];exact hk
     have e2:(a.text.toList==c.text.toList)=true:=by rw [ht];exact beq_self_eq_true _
     have e3:(((a.kids.length:Nat):Int) !=((c.kids.length:Nat):Int))=true:=by rw [bne_iff_ne];omega
     have HS:=hJ (aF6 (a:=a) (b:=c) (fun h=>hn h.2.2))
     clear hk ht hn
     go_enter Tryz.func8,Tryz.ntmps8
     go_upto_region 1 with fail
     generalize World.alloc (World.alloc w _) _=w1 at*
     generalize hp:w.heap.size=p at HST
     generalize hq:p+1=q at HST
     have HP:=hJ hp
     have HQ:=hJ hq
     clear hp hq
     obtain⟨d0,d1,d2,d3,d4,g0,g1,g2,g3,g4⟩:=ab0.facts HST.out.box
     obtain⟨x0,x1,x2,x3,x4,y0,y1,y2,y3,y4⟩:=ab0.facts HST.out.box2
     go_wp2_with fail
     go_ret
     exact⟨by rw [HS.out];rfl,HST.out.bel⟩
   ·have e1:(a.kind !=c.kind)=false:=by rw [bne_eq_false_iff_eq];exact hk
    have e2:(a.text.toList==c.text.toList)=false:=bG5 ht
    have HS:=hJ (aF6 (a:=a) (b:=c) (fun h=>ht h.2.1))
    clear hk ht
    go_enter Tryz.func8,Tryz.ntmps8
    go_upto_region 1 with fail
    generalize World.alloc (World.alloc w _) _=w1 at*
    generalize hp:w.heap.size=p at HST
    generalize hq:p+1=q at HST
    have HP:=hJ hp
    have HQ:=hJ hq
    clear hp hq
    obtain⟨d0,d1,d2,d3,d4,g0,g1,g2,g3,g4⟩:=ab0.facts HST.out.box
    obtain⟨x0,x1,x2,x3,x4,y0,y1,y2,y3,y4⟩:=ab0.facts HST.out.box2
    go_wp2_with fail
    go_ret
    exact⟨by rw [HS.out];rfl,HST.out.bel⟩
  ·have e1:(a.kind !=c.kind)=true:=by rw [bne_iff_ne];exact hk
   have HS:=hJ (aF6 (a:=a) (b:=c) (fun h=>hk h.1))
   clear hk
   go_enter Tryz.func8,Tryz.ntmps8
   go_upto_region 1 with fail
   generalize World.alloc (World.alloc w _) _=w1 at*
   generalize hp:w.heap.size=p at HST
   generalize hq:p+1=q at HST
   have HP:=hJ hp
   have HQ:=hJ hq
   clear hp hq
   obtain⟨d0,d1,d2,d3,d4,g0,g1,g2,g3,g4⟩:=ab0.facts HST.out.box
   obtain⟨x0,x1,x2,x3,x4,y0,y1,y2,y3,y4⟩:=ab0.facts HST.out.box2
   go_wp2_with fail
   go_ret
   exact⟨by rw [HS.out];rfl,HST.out.bel⟩
end
end Go.Proofs.YtnobjeelihkjmaaGreatDoor
