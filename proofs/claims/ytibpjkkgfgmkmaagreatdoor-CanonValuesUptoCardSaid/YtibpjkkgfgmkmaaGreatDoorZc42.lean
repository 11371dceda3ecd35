/- Steps (Ca Cw). Conditions: as stated. -/
import Derived.Test.YtibpjkkgfgmkmaaGreatDoorZc40
import Derived.Test.YtibpjkkgfgmkmaaGreatDoorZc41
import Derived.Test.YtibpjkkgfgmkmaaGreatDoorZc30
import Derived.Test.YtibpjkkgfgmkmaaGreatDoorZc43
set_option maxHeartbeats 16000000
set_option maxRecDepth 100000
namespace Go.Proofs.YtibpjkkgfgmkmaaGreatDoor
section
open Go.RowKit
theorem br5 (x:Int) (w:World):Calls Tryz.prog 12 #[.int .i64 x] w fun e w'=>e= .returned (.int .i64 x)∧w'=w:=by
 go_enter Tryz.func12,Tryz.ntmps12
 go_wp2_with fail
 go_ret
 exact⟨rfl,rfl⟩
theorem aR5 {s:ByteArray} {n:Nd} {q:Ps} (f:Nat) (hs:s.size≤1048576) (hf:f≤1073741824) (w:World) (hx:Lx w) (hT:aB9 s false f= .ok n q):
  Calls Tryz.prog 10 #[.string s,.bool false] w fun e w'=>(∃a cap,e= .returned (.tuple #[.agg #[.int .i64 n.kind,.string n.text,.slice a n.kids.length cap,.int .i64 n.from',.int .i64 n.till],.int .i64 0,.int .i64 0])∧n.kids.length≤cap∧RowP w' 0 w'.heap.size n.kids a 0)∧Below w.heap.size w w':=by
 have h:=bw7 s false f hs hf w hx (by rw [hT];intro h;cases h)
 rw [hT] at h
 exact h
theorem bn4 {s:ByteArray} {n:Nd} {q:Ps} (F:Nat) (hF:F≤1073741824) (hs:s.size≤1048576) (hE:aB9 s false F= .ok n q) (hz:aa0 n≤4194304) (hok:okC (ao3 n)=true) (w:World) (hx:Lx w):
  Calls Tryz.prog 6 #[.string s] w fun e w'=> ∃u,e= .returned (.tuple #[u,.bool true])∧NdV w' 0 w'.heap.size (canN (ao3 n)) u∧Below w.heap.size w w':=by
 have HE:=hJ (fun W h=>aR5 F hs hF W h hE)
 have HX:=hJ hx
 clear hE hx
 obtain⟨k,hk⟩: ∃k,canN (ao3 n)=k:=⟨_,rfl⟩
 rw [hk]
 have hba:=af0 w (.cells #[.int .i64 0,.string ⟨#[]⟩,.slice none 0 0,.int .i64 0,.int .i64 0] 28)
 have hbq:aa6 (w.alloc (.cells #[.int .i64 0,.string ⟨#[]⟩,.slice none 0 0,.int .i64 0,.int .i64 0] 28)) w.heap.size 0 ⟨#[]⟩ (.slice none 0 0) 0 0:=heap_alloc_new _ _
 go_enter Tryz.func6,Tryz.ntmps6
 go_upto_region 1 with fail
 generalize World.alloc w _=w1 at*
 have HB:=hJ hba
 have HQ:=hJ hbq
 clear hba hbq
 go_upto_region 2 with (go_at_call 10;refine(HE.out _ (HX.out.bel HB.out)).mono ?_;rintro e w2 ⟨⟨a,cap,rfl,hcap,hrow⟩,hb1⟩)
 have hsz2:w1.heap.size≤w2.heap.size:=hb1.size
 have hb2:=aa2 HB.out hb1
 have hbx:aa6 (w2.alloc (.cells #[.int .i64 n.kind,.string n.text,.slice a n.kids.length cap,.int .i64 n.from',.int .i64 n.till] 28)) w2.heap.size n.kind n.text (.slice a n.kids.length cap) n.from' n.till:=aE4 w2 n a cap
 have hal:=af0 w2 (.cells #[.int .i64 n.kind,.string n.text,.slice a n.kids.length cap,.int .i64 n.from',.int .i64 n.till] 28)
 have hb3:=aa2 hb2 hal
 have hq3:=(HQ.out.bel hb1).bel hal
 have hsz:=hal.size
 have hlt:w.heap.size<w1.heap.size:=HQ.out.lt
 have hV:NdV (w2.alloc (.cells #[.int .i64 n.kind,.string n.text,.slice a n.kids.length cap,.int .i64 n.from',.int .i64 n.till] 28)) 0 w2.heap.size n (.agg #[.int .i64 n.kind,.string n.text,.slice a n.kids.length cap,.int .i64 n.from',.int .i64 n.till]):=⟨a,cap,rfl,hcap,ae8 hrow hal⟩
 generalize World.alloc w2 _=w3 at*
 have hC:=aP5 n _ w3 0 w2.heap.size hV hsz hz hok (HX.out.bel hb3)
 rw [hk] at hC
 have HC:=hJ hC
 have HB3:=hJ hb3
 have HQ3:=hJ hq3
 obtain⟨x0,x1,x2,x3,x4,y0,y1,y2,y3,y4⟩:=aa6.facts hbx
 clear hb1 hb2 hb3 hal hq3 hrow HQ HB HE HX hcap hV hC hk
 go_wp2_with (first|(go_at_call 12;refine(br5 _ _).mono ?_;rintro e w9 ⟨rfl,rfl⟩)|(go_at_call 11;refine HC.out.mono ?_;rintro e w4 ⟨u,rfl,hu,hb4⟩;have HB4:=hJ (aa2 HB3.out hb4);have hq4:=HQ3.out.bel hb4;have HU:=hJ hu;have HQ4:=hJ hq4;obtain⟨b4,cap4,rfl,_⟩:=hu;clear hb4 x0 x1 x2 x3 x4 y0 y1 y2 y3 y4;unfold aa7 at*;obtain⟨x0,x1,x2,x3,x4,y0,y1,y2,y3,y4⟩:=aa6.facts hq4))
 refine bodyPost_ret (bi3 rfl (b:=w.heap.size) rfl rfl HQ4.out.lay) rfl ?_
 obtain⟨b5,cap5,e5,hc5,hr5⟩:=HU.out
 exact⟨_,rfl,⟨b5,cap5,e5,hc5,ah9 (Nat.zero_le _) (Nat.le_of_eq (by simp [World.setCell])) (fun k h1 _=>lay5_block _ _ _ _ _ _ _ _ (by omega)) hr5⟩,lay5_bel HB4.out (Nat.le_refl _) _ _ _ _ _⟩
theorem aQ5:canN (au0 (lfN 4 ⟨#[39,97,39]⟩) (lfN 3 ⟨#[48,120,48,70]⟩))=au0 (lfN 4 ⟨#[61,48,48,54,49,44]⟩) (lfN 3 ⟨#[48,120,102]⟩)∧okC (au0 (lfN 4 ⟨#[39,97,39]⟩) (lfN 3 ⟨#[48,120,48,70]⟩))=true:=⟨by kernel_rfl,by kernel_rfl⟩
theorem bh1 (w:World) (hx:Lx w):Calls Tryz.prog 5 #[] w fun e w'=>e= .returned (.bool true)∧Below w.heap.size w w':=by
 obtain⟨n,q,hE,hN,hz⟩:=bh9 (s:=⟨#[40,39,97,39,32,43,32,48,120,48,70,41]⟩) rfl
 have hT:ao3 n=_:=(aM5 (by omega)).trans hN
 have hok:okC (ao3 n)=true:=by rw [hT];exact aQ5.2
 have hk:=(congrArg canN hT).trans aQ5.1
 have HE:=hJ (fun W h=>aR5 70 (by decide) (by decide) W h hE)
 have HX:=hJ hx
 clear hE hx hT hN
 obtain⟨kn,hkn⟩: ∃kn,au0 (lfN 4 ⟨#[61,48,48,54,49,44]⟩) (lfN 3 ⟨#[48,120,102]⟩)=kn:=⟨_,rfl⟩
 rw [hkn] at hk
 go_enter Tryz.func5,Tryz.ntmps5
 go_upto_region 2 with (go_at_call 10;refine(HE.out _ HX.out).mono ?_;rintro e w2 ⟨⟨a,cap,rfl,hcap,hrow⟩,hb1⟩)
 have hbx:aa6 (w2.alloc (.cells #[.int .i64 n.kind,.string n.text,.slice a n.kids.length cap,.int .i64 n.from',.int .i64 n.till] 28)) w2.heap.size n.kind n.text (.slice a n.kids.length cap) n.from' n.till:=aE4 w2 n a cap
 have hal:=af0 w2 (.cells #[.int .i64 n.kind,.string n.text,.slice a n.kids.length cap,.int .i64 n.from',.int .i64 n.till] 28)
 have hb3:=aa2 hb1 hal
 have hsz:=hal.size
 have hV:NdV (w2.alloc (.cells #[.int .i64 n.kind,.string n.text,.slice a n.kids.length cap,.int .i64 n.from',.int .i64 n.till] 28)) 0 w2.heap.size n (.agg #[.int .i64 n.kind,.string n.text,.slice a n.kids.length cap,.int .i64 n.from',.int .i64 n.till]):=⟨a,cap,rfl,hcap,ae8 hrow hal⟩
 generalize World.alloc w2 _=w3 at*
 have hC:=aP5 n _ w3 0 w2.heap.size hV hsz (by omega) hok (HX.out.bel hb3)
 rw [hk] at hC
 have HC:=hJ hC
 have HB3:=hJ hb3
 obtain⟨x0,x1,x2,x3,x4,y0,y1,y2,y3,y4⟩:=aa6.facts hbx
 clear hb1 hb3 hal hrow HE HX hcap hV hC hk hok
 go_upto_region 3 with (go_at_call 11;refine HC.out.mono ?_;rintro e w4 ⟨u,rfl,hu,hb4⟩;have HB4:=hJ (aa2 HB3.out hb4);obtain⟨b4,cap4,rfl,hc4,hr4⟩:=hu;clear hb4 x0 x1 x2 x3 x4 y0 y1 y2 y3 y4;unfold aa7 at*)
 have hkd:kn.kind=29:=by rw [←hkn];rfl
 have hkl:kn.kids.length=2:=by rw [←hkn];rfl
 have hr5:=hr4
 rw [←hkn] at hr5
 obtain⟨g,off,e1,h1⟩:=ah5 hr5 0 (show 0<2 by decide)
 obtain⟨g',off',e2,h2⟩:=ah5 hr5 1 (show 1<2 by decide)
 subst e1
 injection e2 with e2
 injection e2 with e2 e3
 subst e2 e3
 rw [am3] at h1 h2
 obtain⟨_,_,_,g4,_,t1,_⟩:=h1
 obtain⟨_,_,_,_,_,t2,_⟩:=h2
 simp only [Nat.zero_add,Nat.zero_mul,Nat.add_zero,Nat.one_mul] at t1 t2
 replace t1:w4.cell? ⟨g,off+1,none⟩=some (.string ⟨#[61,48,48,54,49,44]⟩):=t1
 replace t2:w4.cell? ⟨g,off+5+1,none⟩=some (.string ⟨#[48,120,102]⟩):=t2
 rw [hkd,hkl]
 have hal:=af0 w4 (.cells #[.int .i64 29,.string kn.text,.slice (some ⟨g,off,none⟩) 2 cap4,.int .i64 kn.from',.int .i64 kn.till] 28)
 have hb5:aa6 (w4.alloc (.cells #[.int .i64 29,.string kn.text,.slice (some ⟨g,off,none⟩) 2 cap4,.int .i64 kn.from',.int .i64 kn.till] 28)) w4.heap.size 29 kn.text (.slice (some ⟨g,off,none⟩) 2 cap4) kn.from' kn.till:=heap_alloc_new _ _
 rw [←hal.cell g4] at t1 t2
 have HB5:=hJ (aa2 HB4.out hal)
 rw [hkl] at hc4
 generalize World.alloc w4 _=w5 at*
 obtain⟨x0,x1,x2,x3,x4,y0,y1,y2,y3,y4⟩:=aa6.facts hb5
 clear hr4 hr5 hkn hkd hkl hal hb5 HC
 go_wp2_with (go_at_call 12;refine(br5 _ _).mono ?_;rintro e w9 ⟨rfl,rfl⟩)
 go_ret
 exact⟨rfl,HB5.out⟩
end
section
open Go.RowKit
theorem bN6 (a:Nd):an9 a a=true:=by
 induction a using Nd.ind with
 |h n ih=>exact(at8 n n).2 ⟨rfl,rfl,rfl,fun i h _=>ih _ (List.getElem_mem h)⟩
def aR1:List (List UInt8):=(List.range 8).map oneP
def aR2:List (List UInt8):=(List.range 8).map twoP
theorem bF2:(∀o ∈ aR1,o.length≤11)∧∀o ∈ aR2,o.length≤10:=by decide
def bO6 (w:World) (g h len:Nat) (sv tv i:Value) (wr:World):Prop:=
 ∃(j:Nat) (r:List Nat) (S T:ByteArray),j≤len∧j≤20∧i= .int .i64 j∧r.length=j∧sv= .string S∧S.data.toList=sT r.reverse∧tv= .string T∧T.data.toList=tT r∧Below w.heap.size w wr∧StrS g aR1 wr∧StrS h aR2 wr
theorem bI8 {w wr:World} {g h len j:Nat} {r:List Nat} {S T X Y:ByteArray} {a:Nat} (hlt:j<len) (hlt20:j<20) (hoj:r.length=j) (hS:S.data.toList=sT r.reverse) (hT:T.data.toList=tT r) (hX:X.data.toList=S.data.toList++([32,43,32]++oneP a)) (hY:Y.data.toList=40::(T.data.toList++41::32::43::32::twoP a)) (hb:Below w.heap.size w wr) (hr:StrS g aR1 wr) (hq:StrS h aR2 wr):
  bO6 w g h len (.string X) (.string Y) (.int .i64 ((j+1:Nat):Int)) wr:=
 ⟨j+1,a::r,X,Y,hlt,by omega,rfl,by simp [hoj],rfl,by rw [hX,hS,List.reverse_cons,bu5],rfl,by rw [hY,hT,tT],hb,hr,hq⟩
theorem bk9 (ao:Option Addr) (len cap:Nat) (w:World) (hc:bl6 w ao len) (hl:len≤33554432) (hx:Lx w):
  Calls Tryz.prog 3 #[.slice ao len cap] w fun e w'=>e= .returned (.bool true)∧Below w.heap.size w w':=by
 have HC:=hJ hc
 have HX:=hJ hx
 clear hc hx
 go_enter Tryz.func3,Tryz.ntmps3
 go_upto_region 3 with (go_at_call 5;refine(bh1 w HX.out).mono ?_;rintro e w1 ⟨rfl,hb1⟩)
 go_upto_region 5 with fail
 have hr1:StrS w1.heap.size aR1 (w1.alloc (.cells #[.string ⟨#[49,46,48]⟩,.string ⟨#[39,97,39]⟩,.string ⟨#[40,98,41]⟩,.string ⟨#[40,40,99,41,41]⟩,.string ⟨#[91,100,44,32,48,120,48,102,93]⟩,.string ⟨#[96,101,96]⟩,.string ⟨#[47,102,47]⟩,.string ⟨#[102,40,39,92,117,48,48,52,49,39,41]⟩] 9)):=StrS.new w1 aR1 9
 have hb2:Below w.heap.size w (w1.alloc (.cells #[.string ⟨#[49,46,48]⟩,.string ⟨#[39,97,39]⟩,.string ⟨#[40,98,41]⟩,.string ⟨#[40,40,99,41,41]⟩,.string ⟨#[91,100,44,32,48,120,48,102,93]⟩,.string ⟨#[96,101,96]⟩,.string ⟨#[47,102,47]⟩,.string ⟨#[102,40,39,92,117,48,48,52,49,39,41]⟩] 9)):=hb1.alloc hb1.size _
 have hw2:=World.size_alloc w1 (.cells #[.string ⟨#[49,46,48]⟩,.string ⟨#[39,97,39]⟩,.string ⟨#[40,98,41]⟩,.string ⟨#[40,40,99,41,41]⟩,.string ⟨#[91,100,44,32,48,120,48,102,93]⟩,.string ⟨#[96,101,96]⟩,.string ⟨#[47,102,47]⟩,.string ⟨#[102,40,39,92,117,48,48,52,49,39,41]⟩] 9)
 generalize World.alloc w1 _=w2 at*
 generalize w1.heap.size=g at*
 have hq1:StrS w2.heap.size aR2 (w2.alloc (.cells #[.string ⟨#[49]⟩,.string ⟨#[34,92,120,54,49,34]⟩,.string ⟨#[98]⟩,.string ⟨#[99]⟩,.string ⟨#[91,40,100,41,44,32,48,88,70,93]⟩,.string ⟨#[40,96,101,96,41]⟩,.string ⟨#[40,47,102,47,41]⟩,.string ⟨#[40,102,41,40,40,39,65,39,41,41]⟩] 9)):=StrS.new w2 aR2 9
 have hal:=af0 w2 (.cells #[.string ⟨#[49]⟩,.string ⟨#[34,92,120,54,49,34]⟩,.string ⟨#[98]⟩,.string ⟨#[99]⟩,.string ⟨#[91,40,100,41,44,32,48,88,70,93]⟩,.string ⟨#[40,96,101,96,41]⟩,.string ⟨#[40,47,102,47,41]⟩,.string ⟨#[40,102,41,40,40,39,65,39,41,41]⟩] 9)
 replace hr1:=hr1.bel hal
 replace hb2:=aa2 hb2 hal
 rw [hw2] at hq1
 clear hal hw2
 generalize World.alloc w2 _=w3 at*
 clear hb1
 have HB:=hJ hb2
 have HR:=hJ hr1
 have HQ:=hJ hq1
 clear hb2 hr1 hq1
 go_wp2_with fail
 go_loopw [5,6,7,8] (fun sv tv i _ wr=>bO6 w3 g (g+1) len sv tv i wr) (fun _ _ i _ _=>20 - (intOf i).toNat)
 case atStart=>exact⟨0,[],⟨#[120]⟩,⟨#[40,120,41]⟩,Nat.zero_le _,Nat.zero_le _,rfl,rfl,rfl,rfl,rfl,rfl,Below.refl _ _,HR.out,HQ.out⟩
 case round=>
  clear HR HQ
  obtain⟨j,r,S,T,hj,hj20,rfl,hoj,rfl,hS,rfl,hT,hbr,hrow,hqow⟩:=hrel
  have hSs:S.size≤300:=by rw [aM4 hS];have:=(bu4 r).1;omega
  have hTs:T.size≤320:=by rw [aM4 hT];have:=(bu4 r).2;omega
  have HS:=hJ hS
  have HT:=hJ hT
  have HBR:=hJ hbr
  have HRW:=hJ hrow
  have HQW:=hJ hqow
  clear hS hT
  by_cases hlt:j<len∧j<20
  ·obtain⟨hlt,hlt20⟩:=hlt
   obtain⟨b,off,rfl,hb,z,hz⟩:=HC.out j hlt
   rw [←(aa2 HB.out HBR.out).cell (p:=⟨b,off+j,none⟩) hb] at hz
   obtain⟨a,ha,ha2⟩:=bU7 z 8 (by decide)
   replace ha:(IntKind.u64.wrap z).tmod 8=(a:Int):=ha
   have cx:=hrow.2 a ha2
   have cy:=hqow.2 a ha2
   have hx1:aR1[a]'ha2=oneP a:=by simp [aR1]
   have hy1:aR2[a]'ha2=twoP a:=by simp [aR2]
   have hxl:=bF2.1 _ (List.getElem_mem (l:=aR1) ha2)
   have hyl:=bF2.2 _ (List.getElem_mem (l:=aR2) ha2)
   rw [hx1] at cx hxl
   rw [hy1] at cy hyl
   obtain⟨X,hX⟩: ∃X:ByteArray,(⟨(oneP a).toArray⟩:ByteArray)=X:=⟨_,rfl⟩
   obtain⟨Y,hY⟩: ∃Y:ByteArray,(⟨(twoP a).toArray⟩:ByteArray)=Y:=⟨_,rfl⟩
   rw [hX] at cx
   rw [hY] at cy
   have hXl:X.data.toList=oneP a:=by rw [←hX]
   have hYl:Y.data.toList=twoP a:=by rw [←hY]
   have hXs:X.size≤11:=by rw [aM4 hXl];exact hxl
   have hYs:Y.size≤10:=by rw [aM4 hYl];exact hyl
   have HXL:=hJ hXl
   have HYL:=hJ hYl
   have la:IntKind.i64.wrap (a:Int)=a:=by rw [IntKind.wrap_i64];omega
   have na:(0:Int)≤(a:Int):=by omega
   have ma:(a:Int)<8:=by omega
   clear hx1 hy1 hxl hyl hX hY hXl hYl hbr hrow hqow
   go_wp2_with fail
   go_roundw
   case rel=>exact bI8 (a:=a) hlt hlt20 hoj HS.out HT.out (by simp [ByteArray.data_append,HXL.out]) (by simp [ByteArray.data_append,HYL.out]) HBR.out HRW.out HQW.out
   case measure=>simp [intOf];omega
  ·have hend:j=len∨(j=20∧20<len):=by omega
   obtain⟨n,q,m,p,c,F,e1,e2,hF,z1,z2,o1,o2,k1,k2,hzc⟩:=bl0 (by omega) HS.out HT.out
   have HW:Hid (Below w.heap.size w wr):=hJ (aa2 HB.out HBR.out)
   have HA1:=hJ (bn4 60 (by decide) (by omega) e1 z1 o1 wr (HX.out.bel HW.out))
   have HA2:=hJ (fun W (h:Below wr.heap.size wr W)=>bn4 F hF (by omega) e2 z2 o2 W (HX.out.bel (aa2 HW.out h)))
   rw [k1] at HA1
   rw [k2] at HA2
   have HZ:=hJ hzc
   clear e1 e2 hF z1 z2 o1 o2 k1 k2 hzc hbr hrow hqow HC HS HT HB HBR HRW HQW
   rcases hend with rfl|⟨rfl,hl20⟩
   all_goals
    go_upto_region 13 with (go_at_call 6;refine HA1.out.mono ?_;rintro e w4 ⟨u,rfl,hu,hb4⟩;have HU:=hJ hu;obtain⟨b4,cap4,rfl,_⟩:=hu;unfold aa7 at*)
    have hal4:=af0 w4 (.cells #[.int .i64 c.kind,.string c.text,.slice b4 c.kids.length cap4,.int .i64 c.from',.int .i64 c.till] 28)
    have hbx4:aa6 (w4.alloc (.cells #[.int .i64 c.kind,.string c.text,.slice b4 c.kids.length cap4,.int .i64 c.from',.int .i64 c.till] 28)) w4.heap.size c.kind c.text (.slice b4 c.kids.length cap4) c.from' c.till:=heap_alloc_new _ _
    have hb5:=aa2 hb4 hal4
    have hu5:=aD9 HU.out hal4
    have hs44:=hal4.size
    generalize World.alloc w4 _=w5 at*
    go_upto_region 14 with (go_at_call 6;refine(HA2.out _ hb5).mono ?_;rintro e w6 ⟨u,rfl,hu,hb6⟩;have HU6:=hJ hu;obtain⟨b6,cap6,rfl,_⟩:=hu;unfold aa7 at*)
    have hal6:=af0 w6 (.cells #[.int .i64 c.kind,.string c.text,.slice b6 c.kids.length cap6,.int .i64 c.from',.int .i64 c.till] 28)
    have hbx6:aa6 (w6.alloc (.cells #[.int .i64 c.kind,.string c.text,.slice b6 c.kids.length cap6,.int .i64 c.from',.int .i64 c.till] 28)) w6.heap.size c.kind c.text (.slice b6 c.kids.length cap6) c.from' c.till:=heap_alloc_new _ _
    have hb67:=aa2 hb6 hal6
    have hb7:=aa2 HW.out (aa2 hb5 hb67)
    have hs45:=hs44
    have hs56:=hb6.size
    have hu7:=(aD9 hu5 (hb67.mono hs45)).low (B':=w6.heap.size) (Nat.le_refl 0) (by omega)
    have hv7:=aD9 HU6.out hal6
    have hbx47:=hbx4.bel hb67
    have hs67:=hal6.size
    have HSM:=hJ (bD2 c c _ _ _ 0 w6.heap.size hu7 hv7 hs67 HZ.out)
    rw [bN6] at HSM
    generalize World.alloc w6 _=w7 at*
    have HB7:=hJ hb7
    obtain⟨x0,x1,x2,x3,x4,_⟩:=aa6.facts hbx47
    obtain⟨z0,z1,z2,z3,z4,_⟩:=aa6.facts hbx6
    clear hal6 hb67 hb7 hu7 hv7 hbx47 hbx6 hal4 hbx4 hb5 hu5 hb4 hb6 HA1 HA2 HU HU6
    go_wp2_with (go_at_call 7;refine HSM.out.mono ?_;rintro e w8 ⟨rfl,hb8⟩)
    go_ret
    exact⟨rfl,aa2 HB7.out hb8⟩
end
end Go.Proofs.YtibpjkkgfgmkmaaGreatDoor
